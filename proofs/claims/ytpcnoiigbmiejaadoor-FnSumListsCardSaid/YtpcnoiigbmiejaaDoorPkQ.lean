/- Several texts in one: GoB, Gow, Gox. -/
import Derived.Test.YtpcnoiigbmiejaaDoorGame
import Derived.Test.YtpcnoiigbmiejaaDoorPkJ
import Derived.Test.YtpcnoiigbmiejaaDoorChain
import Derived.Test.YtpcnoiigbmiejaaDoorSl
import Derived.Test.YtpcnoiigbmiejaaDoorNear
/- What the program's games compute, in plain words. -/
namespace Go.Proofs.YtpcnoiigbmiejaaDoor.gob
set_option linter.unusedVariables false
set_option linter.unusedSimpArgs false
open Go.Proofs.YtpcnoiigbmiejaaDoor.base Go.Proofs.YtpcnoiigbmiejaaDoor.still Go.Proofs.YtpcnoiigbmiejaaDoor.game

/-- the structure by its bits -/
def gr (N : Nat) (s r : ByteArray) : Gr := ⟨N, bitAt s, fun x y => bitAt r (x * N + y)⟩
/-- the second player can go on so many rounds -/
def goB : Nat → Nat → ByteArray → ByteArray → List Nat → Nat → ByteArray → ByteArray → List Nat → Bool
  | 0, _, _, _, _, _, _, _, _ => true
  | r + 1, N, sa, ra, la, M, sb, rb, lb =>
    ((List.range N).all fun x => swB N sa ra la M sb rb lb && (List.range M).any fun y => stB N sa ra la M sb rb lb x y && goB r N sa ra (la ++ [x]) M sb rb (lb ++ [y])) &&
    ((List.range M).all fun y => swB M sb rb lb N sa ra la && (List.range N).any fun x => stB M sb rb lb N sa ra la y x && goB r M sb rb (lb ++ [y]) N sa ra (la ++ [x]))
/-- there is a reply -/
def repB (r N : Nat) (sa ra : ByteArray) (la : List Nat) (M : Nat) (sb rb : ByteArray) (lb : List Nat) (x : Nat) : Bool :=
  swB N sa ra la M sb rb lb && (List.range M).any fun y => stB N sa ra la M sb rb lb x y && goB r N sa ra (la ++ [x]) M sb rb (lb ++ [y])
theorem goB_succ (r N : Nat) (sa ra : ByteArray) (la : List Nat) (M : Nat) (sb rb : ByteArray) (lb : List Nat) : goB (r + 1) N sa ra la M sb rb lb = (((List.range N).all fun x => repB r N sa ra la M sb rb lb x) && (List.range M).all fun y => repB r M sb rb lb N sa ra la y) := rfl
/-- the second player wins -/
def winB (r N : Nat) (sa ra : ByteArray) (la : List Nat) (M : Nat) (sb rb : ByteArray) (lb : List Nat) : Bool := swB N sa ra la M sb rb lb && goB r N sa ra la M sb rb lb
def Els (N : Nat) (l : List Nat) : Prop := ∀ x, x ∈ l → x < N
theorem Els.snoc {N : Nat} {l : List Nat} (h : Els N l) {x : Nat} (hx : x < N) : Els N (l ++ [x]) := fun y hy => by
  rcases List.mem_append.1 hy with h' | h'
  · exact h y h'
  · rw [List.mem_singleton.1 h']; exact hx
theorem Els.get {N : Nat} {l : List Nat} (h : Els N l) {i : Nat} (hi : i < l.length) : l.getD i 0 < N := by
  rw [List.getD_eq_getElem?_getD, List.getElem?_eq_getElem hi]
  exact h _ (List.getElem_mem _)
theorem mem_zip {xs ys : List Nat} (hl : xs.length = ys.length) {p : Nat × Nat} : p ∈ xs.zip ys ↔ ∃ i, i < xs.length ∧ p = (xs.getD i 0, ys.getD i 0) := by
  rw [List.mem_iff_getElem]
  constructor
  · rintro ⟨i, hi, rfl⟩
    rw [List.length_zip] at hi
    refine ⟨i, by omega, ?_⟩
    rw [List.getElem_zip, List.getD_eq_getElem?_getD, List.getD_eq_getElem?_getD, List.getElem?_eq_getElem (by omega), List.getElem?_eq_getElem (by omega)]
    rfl
  · rintro ⟨i, hi, rfl⟩
    refine ⟨i, by rw [List.length_zip]; omega, ?_⟩
    rw [List.getElem_zip, List.getD_eq_getElem?_getD, List.getD_eq_getElem?_getD, List.getElem?_eq_getElem (by omega), List.getElem?_eq_getElem (by omega)]
    rfl
section
variable {N : Nat} {sa ra : ByteArray} {M : Nat} {sb rb : ByteArray} {la lb : List Nat}
theorem stp_iff {x y k : Nat} : stpB N ra M rb la lb x y k = true ↔ (la.getD k 0 = x ↔ lb.getD k 0 = y) ∧ bitAt ra (la.getD k 0 * N + x) = bitAt rb (lb.getD k 0 * M + y) ∧ bitAt ra (x * N + la.getD k 0) = bitAt rb (y * M + lb.getD k 0) := by
  unfold stpB
  rw [Bool.and_eq_true, Bool.and_eq_true, beq_iff_eq, beq_iff_eq, beq_iff_eq, Bool.eq_iff_iff, beq_iff_eq, beq_iff_eq]
  constructor
  · rintro ⟨h1, h2⟩; exact ⟨⟨fun e => by have := h1.1 (by omega); omega, fun e => by have := h1.2 (by omega); omega⟩, h2⟩
  · rintro ⟨h1, h2⟩; exact ⟨⟨fun e => by have := h1.1 (by omega); omega, fun e => by have := h1.2 (by omega); omega⟩, h2⟩
theorem st_iff {x y : Nat} : stB N sa ra la M sb rb lb x y = true ↔ bitAt sa x = bitAt sb y ∧ bitAt ra (x * N + x) = bitAt rb (y * M + y) ∧ ∀ k, k < la.length → (la.getD k 0 = x ↔ lb.getD k 0 = y) ∧ bitAt ra (la.getD k 0 * N + x) = bitAt rb (lb.getD k 0 * M + y) ∧ bitAt ra (x * N + la.getD k 0) = bitAt rb (y * M + lb.getD k 0) := by
  unfold stB
  rw [Bool.and_eq_true, Bool.and_eq_true, beq_iff_eq, beq_iff_eq, List.all_eq_true]
  constructor
  · rintro ⟨h1, h2, h3⟩; exact ⟨h1, h2, fun k hk => stp_iff.1 (h3 k (List.mem_range.2 hk))⟩
  · rintro ⟨h1, h2, h3⟩; exact ⟨h1, h2, fun k hk => stp_iff.2 (h3 k (List.mem_range.1 hk))⟩
/-- one more pair in the same way -/
theorem st_way (hl : la.length = lb.length) (h : Gway (gr N sa ra) (gr M sb rb) (la.zip lb)) {x y : Nat} (hx : x < N) (hy : y < M) : stB N sa ra la M sb rb lb x y = true ↔ Gway (gr N sa ra) (gr M sb rb) ((x, y) :: la.zip lb) := by
  rw [st_iff]
  constructor
  · rintro ⟨h1, h2, h3⟩
    have key : ∀ p, p ∈ la.zip lb → (p.1 = x ↔ p.2 = y) ∧ bitAt ra (p.1 * N + x) = bitAt rb (p.2 * M + y) ∧ bitAt ra (x * N + p.1) = bitAt rb (y * M + p.2) := fun p hp => by
      obtain ⟨k, hk, rfl⟩ := (mem_zip hl).1 hp
      exact h3 k hk
    refine ⟨fun p hp => ?_, fun p q hp hq => ?_⟩
    · rcases List.mem_cons.1 hp with rfl | hp
      · exact ⟨hx, hy, h1⟩
      · exact h.1 p hp
    · rcases List.mem_cons.1 hp with rfl | hp <;> rcases List.mem_cons.1 hq with rfl | hq
      · exact ⟨⟨fun _ => rfl, fun _ => rfl⟩, h2⟩
      · obtain ⟨a, _, c⟩ := key q hq
        exact ⟨⟨fun e => (a.1 e.symm).symm, fun e => (a.2 e.symm).symm⟩, c⟩
      · obtain ⟨a, b, _⟩ := key p hp
        exact ⟨a, b⟩
      · exact h.2 p q hp hq
  · intro hw
    have hm : (x, y) ∈ (x, y) :: la.zip lb := List.mem_cons_self
    refine ⟨(hw.1 _ hm).2.2, (hw.2 _ _ hm hm).2, fun k hk => ?_⟩
    have hk' : (la.getD k 0, lb.getD k 0) ∈ (x, y) :: la.zip lb := List.mem_cons_of_mem _ ((mem_zip hl).2 ⟨k, hk, rfl⟩)
    exact ⟨(hw.2 _ _ hk' hm).1, (hw.2 _ _ hk' hm).2, (hw.2 _ _ hm hk').2⟩
theorem getD_take {l : List Nat} {i k : Nat} (h : k < i) : (l.take i).getD k 0 = l.getD k 0 := by
  simp [List.getD_eq_getElem?_getD, List.getElem?_take, h]
/-- lists in the same way -/
theorem sw_way (hl : la.length = lb.length) (ha : Els N la) (hb : Els M lb) : swB N sa ra la M sb rb lb = true ↔ Gway (gr N sa ra) (gr M sb rb) (la.zip lb) := by
  unfold swB
  rw [List.all_eq_true]
  have hst : ∀ i, i < la.length → (stB N sa ra (la.take i) M sb rb (lb.take i) (la.getD i 0) (lb.getD i 0) = true ↔ bitAt sa (la.getD i 0) = bitAt sb (lb.getD i 0) ∧ bitAt ra (la.getD i 0 * N + la.getD i 0) = bitAt rb (lb.getD i 0 * M + lb.getD i 0) ∧ ∀ k, k < i → (la.getD k 0 = la.getD i 0 ↔ lb.getD k 0 = lb.getD i 0) ∧ bitAt ra (la.getD k 0 * N + la.getD i 0) = bitAt rb (lb.getD k 0 * M + lb.getD i 0) ∧ bitAt ra (la.getD i 0 * N + la.getD k 0) = bitAt rb (lb.getD i 0 * M + lb.getD k 0)) := fun i hi => by
    rw [st_iff, List.length_take, Nat.min_eq_left (by omega)]
    constructor
    · rintro ⟨h1, h2, h3⟩
      exact ⟨h1, h2, fun k hk => by have := h3 k hk; rw [getD_take hk, getD_take hk] at this; exact this⟩
    · rintro ⟨h1, h2, h3⟩
      exact ⟨h1, h2, fun k hk => by rw [getD_take hk, getD_take hk]; exact h3 k hk⟩
  constructor
  · intro h
    have h' := fun i hi => (hst i hi).1 (h i (List.mem_range.2 hi))
    refine ⟨fun p hp => ?_, fun p q hp hq => ?_⟩
    · obtain ⟨i, hi, rfl⟩ := (mem_zip hl).1 hp
      exact ⟨ha.get hi, hb.get (by omega), (h' i hi).1⟩
    · obtain ⟨i, hi, rfl⟩ := (mem_zip hl).1 hp
      obtain ⟨k, hk, rfl⟩ := (mem_zip hl).1 hq
      show (la.getD i 0 = la.getD k 0 ↔ lb.getD i 0 = lb.getD k 0) ∧ bitAt ra (la.getD i 0 * N + la.getD k 0) = bitAt rb (lb.getD i 0 * M + lb.getD k 0)
      rcases Nat.lt_trichotomy i k with e | e | e
      · obtain ⟨a, b, _⟩ := (h' k hk).2.2 i e
        exact ⟨a, b⟩
      · subst e; exact ⟨⟨fun _ => rfl, fun _ => rfl⟩, (h' i hi).2.1⟩
      · obtain ⟨a, _, c⟩ := (h' i hi).2.2 k e
        exact ⟨⟨fun e => (a.1 e.symm).symm, fun e => (a.2 e.symm).symm⟩, c⟩
  · intro h i hi
    have hi := List.mem_range.1 hi
    have hm : ∀ j, j < la.length → (la.getD j 0, lb.getD j 0) ∈ la.zip lb := fun j hj => (mem_zip hl).2 ⟨j, hj, rfl⟩
    refine (hst i hi).2 ⟨(h.1 _ (hm i hi)).2.2, (h.2 _ _ (hm i hi) (hm i hi)).2, fun k hk => ?_⟩
    exact ⟨(h.2 _ _ (hm k (by omega)) (hm i hi)).1, (h.2 _ _ (hm k (by omega)) (hm i hi)).2, (h.2 _ _ (hm i hi) (hm k (by omega))).2⟩
end
theorem zip_swap : ∀ (la lb : List Nat), lb.zip la = turn (la.zip lb)
  | [], [] => rfl
  | [], _ :: _ => rfl
  | _ :: _, [] => rfl
  | a :: la, b :: lb => by
    show (b, a) :: lb.zip la = (b, a) :: turn (la.zip lb)
    rw [zip_swap la lb]
theorem turn_turn' (P : Pos) : turn (turn P) = P := by
  unfold turn
  rw [List.map_map]
  conv => rhs; rw [← List.map_id P]
  rfl
theorem win_snoc {A B : Gr} {r : Nat} {la lb : List Nat} (hl : la.length = lb.length) {x y : Nat} : Win A B r ((la ++ [x]).zip (lb ++ [y])) ↔ Win A B r ((x, y) :: la.zip lb) := by
  have e : (la ++ [x]).zip (lb ++ [y]) = la.zip lb ++ [(x, y)] := by rw [List.zip_append hl]; rfl
  rw [e]
  constructor
  · intro hw; exact hw.sub fun p hp => by
      rcases List.mem_cons.1 hp with rfl | hp
      · exact List.mem_append.2 (.inr (List.mem_singleton.2 rfl))
      · exact List.mem_append.2 (.inl hp)
  · intro hw; exact hw.sub fun p hp => by
      rcases List.mem_append.1 hp with hp | hp
      · exact List.mem_cons_of_mem _ hp
      · rw [List.mem_singleton.1 hp]; exact List.mem_cons_self
/-- going on is winning, for lists in the same way -/
theorem go_win : ∀ {r N : Nat} {sa ra : ByteArray} {M : Nat} {sb rb : ByteArray} {la lb : List Nat}, la.length = lb.length → Els N la → Els M lb → Gway (gr N sa ra) (gr M sb rb) (la.zip lb) → (goB r N sa ra la M sb rb lb = true ↔ Win (gr N sa ra) (gr M sb rb) r (la.zip lb))
  | 0, _, _, _, _, _, _, _, _, _, _, _, hw => ⟨fun _ => hw, fun _ => rfl⟩
  | r + 1, N, sa, ra, M, sb, rb, la, lb, hl, ha, hb, hw => by
    have hsw := (sw_way hl ha hb).2 hw
    have hw2 : Gway (gr M sb rb) (gr N sa ra) (lb.zip la) := by rw [zip_swap]; exact hw.turn
    have hsw2 := (sw_way hl.symm hb ha).2 hw2
    have rep : ∀ {N : Nat} {sa ra : ByteArray} {M : Nat} {sb rb : ByteArray} {la lb : List Nat}, la.length = lb.length → Els N la → Els M lb → Gway (gr N sa ra) (gr M sb rb) (la.zip lb) → swB N sa ra la M sb rb lb = true → ∀ x, x < N → (repB r N sa ra la M sb rb lb x = true ↔ ∃ y, y < M ∧ Win (gr N sa ra) (gr M sb rb) r ((x, y) :: la.zip lb)) := fun {N sa ra M sb rb la lb} hl ha hb hw hsw x hx => by
      unfold repB
      rw [hsw, Bool.true_and, List.any_eq_true]
      constructor
      · rintro ⟨y, hy, h⟩
        have hy := List.mem_range.1 hy
        rw [Bool.and_eq_true] at h
        have hw' := (st_way hl hw hx hy).1 h.1
        refine ⟨y, hy, ?_⟩
        have hz : Gway (gr N sa ra) (gr M sb rb) ((la ++ [x]).zip (lb ++ [y])) := (win_snoc (r := 0) hl).2 hw'
        exact (win_snoc hl).1 ((go_win (by simp [hl]) (ha.snoc hx) (hb.snoc hy) hz).1 h.2)
      · rintro ⟨y, hy, h⟩
        refine ⟨y, List.mem_range.2 hy, ?_⟩
        rw [Bool.and_eq_true]
        have hz : Gway (gr N sa ra) (gr M sb rb) ((la ++ [x]).zip (lb ++ [y])) := (win_snoc (r := 0) hl).2 h.way
        exact ⟨(st_way hl hw hx hy).2 h.way, (go_win (by simp [hl]) (ha.snoc hx) (hb.snoc hy) hz).2 ((win_snoc hl).2 h)⟩
    rw [goB_succ, Bool.and_eq_true, List.all_eq_true, List.all_eq_true]
    constructor
    · rintro ⟨h1, h2⟩
      refine ⟨hw, fun x hx => (rep hl ha hb hw hsw x hx).1 (h1 x (List.mem_range.2 hx)), fun y hy => ?_⟩
      obtain ⟨x, hx, h⟩ := (rep hl.symm hb ha hw2 hsw2 y hy).1 (h2 y (List.mem_range.2 hy))
      refine ⟨x, hx, ?_⟩
      have := h.turn
      rw [zip_swap] at this
      have e : turn ((y, x) :: turn (la.zip lb)) = (x, y) :: la.zip lb := by
        show (x, y) :: turn (turn (la.zip lb)) = _
        rw [turn_turn']
      rw [e] at this; exact this
    · rintro ⟨_, h1, h2⟩
      refine ⟨fun x hx => (rep hl ha hb hw hsw x (List.mem_range.1 hx)).2 (h1 x (List.mem_range.1 hx)), fun y hy => ?_⟩
      obtain ⟨x, hx, h⟩ := h2 y (List.mem_range.1 hy)
      refine (rep hl.symm hb ha hw2 hsw2 y (List.mem_range.1 hy)).2 ⟨x, hx, ?_⟩
      have := h.turn
      rw [zip_swap]; exact this
/-- the program's answer is who wins -/
theorem win_iff {r N : Nat} {sa ra : ByteArray} {M : Nat} {sb rb : ByteArray} {la lb : List Nat} (hl : la.length = lb.length) (ha : Els N la) (hb : Els M lb) : winB r N sa ra la M sb rb lb = true ↔ Win (gr N sa ra) (gr M sb rb) r (la.zip lb) := by
  unfold winB
  rw [Bool.and_eq_true]
  constructor
  · rintro ⟨h1, h2⟩
    exact (go_win hl ha hb ((sw_way hl ha hb).1 h1)).1 h2
  · intro h
    exact ⟨(sw_way hl ha hb).2 h.way, (go_win hl ha hb h.way).2 h⟩
end Go.Proofs.YtpcnoiigbmiejaaDoor.gob

/- Games of the program: with, goesOn, replyTo, secondWins, SecondWins, SameRank. -/
namespace Go.Proofs.YtpcnoiigbmiejaaDoor.gow
set_option linter.unusedVariables false
set_option linter.unusedSimpArgs false
open Go.ChangeShapes Go.WideShapes Go.ChangeAt Go.RowKit
open Go.Proofs.YtpcnoiigbmiejaaDoor.lib Go.Proofs.YtpcnoiigbmiejaaDoor.st Go.Proofs.YtpcnoiigbmiejaaDoor.base Go.Proofs.YtpcnoiigbmiejaaDoor.flow Go.Proofs.YtpcnoiigbmiejaaDoor.chain Go.Proofs.YtpcnoiigbmiejaaDoor.fits Go.Proofs.YtpcnoiigbmiejaaDoor.still Go.Proofs.YtpcnoiigbmiejaaDoor.gob

theorem room_own {T : TypeId} {w : World} {B : Nat} {v : Value} {l : List Int} (h : OwnI T w B v l) : Room v := by
  rcases h.2 with ⟨rfl, hn⟩ | ⟨g, cap, cur, rfl, _, _, hc, hm, _⟩
  · exact ⟨Nat.le_refl _, by decide⟩
  · exact ⟨hc, Nat.le_trans hm (by unfold maxLen; decide)⟩
theorem empty_own (w : World) : OwnI 3 (w.alloc (.cells #[] 3)) w.heap.size (.slice (some ⟨w.heap.size, 0, none⟩) 0 0) [] := ⟨rfl, .inr ⟨w.heap.size, 0, #[], rfl, Nat.le_refl _, heap_alloc_new w _, Nat.le_refl _, Nat.zero_le _, rfl, rfl⟩⟩
set_option maxHeartbeats 1600000 in
theorem with_any (v : Value) (l : List Int) (x : Int) (w : World) (hr : Reads w v l) (hl : l.length ≤ 1000) :
    Calls Tryd.prog 188 #[v, .int .i64 x] w fun e w' => ∃ v', e = .returned v' ∧ OwnI 3 w' w.heap.size v' (l ++ [x]) ∧ Below w.heap.size w w' := by
  obtain ⟨W1, hW1⟩ : ∃ QZ, QZ = w.alloc (.cells #[] 3) := ⟨_, rfl⟩
  have HA : Hid (OwnI 3 W1 w.heap.size (.slice (some ⟨w.heap.size, 0, none⟩) 0 0) [] ∧ Below w.heap.size w W1 ∧ Reads W1 v l ∧ w.heap.size ≤ W1.heap.size) := by
    rw [hW1]
    exact ⟨empty_own w, (Below.refl _ _).alloc (Nat.le_refl _) _, hr.below ((Below.refl _ _).alloc (Nat.le_refl _) _) (Nat.le_refl _), by simp⟩
  have HL := Lib.hid hl
  have HW1 := Lib.hid hW1
  clear hr hl hW1
  go_enter Tryd.func188, Tryd.ntmps188
  go_wp2_with (rw [← HW1.out]; at_builtin; refine wpList_appAll W1 rfl (.tmp 5) (.tmp 6) 32 rfl w.heap.size 3 Tryd.underlying32 near.infoInt _ [] l rfl HA.out.1 v rfl HA.out.2.2.1 (by have := HL.out; simp; omega) HA.out.2.2.2 ?_)
  intro v2 w2 ho hg hlt
  have hb2 : Below w.heap.size w w2 := HA.out.2.1.trans (below_of_grown hg HA.out.2.2.2 fun k hk => (World.ownsRow.lt HA.out.1 k hk).1)
  have HO2 : Hid (OwnI 3 w2 w.heap.size v2 l ∧ Below w.heap.size w w2 ∧ w.heap.size ≤ w2.heap.size) := ⟨by simpa using ho, hb2, hb2.size⟩
  clear ho hg hlt hb2 HA HW1
  go_wp2_with (at_builtin; refine wpList_app1 w2 rfl (.tmp 7) (.tmp 9) 32 rfl w.heap.size 3 (.int .i64 0) 8 Tryd.underlying32 near.infoInt rfl (by decide) _ _ _ (.int .i64 x) rfl HO2.out.1 w2.heap.size rfl rfl rfl (by have := HL.out; omega) HO2.out.2.2 ?_)
  intro g cap w3 hown hgr
  have HO3 : Hid (OwnI 3 w3 w.heap.size (.slice (some ⟨g, 0, none⟩) (l.length + 1) cap) (l ++ [x]) ∧ Below w.heap.size w w3) := ⟨by unfold OwnI; rw [List.length_append, ivs_append]; exact hown, HO2.out.2.1.trans (hgr.below HO2.out.1 HO2.out.2.2)⟩
  clear hown hgr HO2
  go_wp2
  go_ret
  exact ⟨_, rfl, HO3.out.1, HO3.out.2⟩
/-- a structure of the games -/
def Sc (N : Nat) (s r : ByteArray) : Prop := N ≤ 8 ∧ s.size = N ∧ r.size = N * N
/-- a list of the games -/
def Ls (w : World) (v : Value) (l : List Nat) (N : Nat) : Prop := Reads w v (ints l) ∧ Room v ∧ (∀ z, z ∈ l → z < N)
theorem Ls.below {w w' : World} {v : Value} {l : List Nat} {N : Nat} (h : Ls w v l N) (hb : Below w.heap.size w w') : Ls w' v l N := ⟨h.1.below hb (Nat.le_refl _), h.2⟩
theorem ints_snoc (l : List Nat) (x : Nat) : ints l ++ [(x : Int)] = ints (l ++ [x]) := by simp [ints]
theorem Ls.snoc {w : World} {B : Nat} {v : Value} {l : List Nat} {N x : Nat} (h : OwnI 3 w B v (ints l ++ [(x : Int)])) (hl : ∀ z, z ∈ l → z < N) (hx : x < N) : Ls w v (l ++ [x]) N := by
  rw [ints_snoc] at h
  exact ⟨h.reads, room_own h, fun z hz => by
    rcases List.mem_append.1 hz with hz | hz
    · exact hl z hz
    · rw [List.mem_singleton.1 hz]; exact hx⟩
def GoC (r : Nat) : Prop := ∀ (N : Nat) (sa ra : ByteArray) (la : List Nat) (va : Value) (M : Nat) (sb rb : ByteArray) (lb : List Nat) (vb : Value) (x : Int) (w : World), x = r → Sc N sa ra → Sc M sb rb → Ls w va la N → Ls w vb lb M → la.length = lb.length → la.length + r ≤ 90 →
  Calls Tryd.prog 108 #[.agg #[.int .i64 N, .string sa, .string ra], va, .agg #[.int .i64 M, .string sb, .string rb], vb, .int .i64 x] w fun e w' => e = .returned (.bool (goB r N sa ra la M sb rb lb)) ∧ Below w.heap.size w w'
def ReC (r : Nat) : Prop := ∀ (N : Nat) (sa ra : ByteArray) (la : List Nat) (va : Value) (M : Nat) (sb rb : ByteArray) (lb : List Nat) (vb : Value) (x : Int) (u : Nat) (w : World), x = (r : Int) + 1 → u < N → Sc N sa ra → Sc M sb rb → Ls w va la N → Ls w vb lb M → la.length = lb.length → la.length + r ≤ 89 →
  Calls Tryd.prog 146 #[.agg #[.int .i64 N, .string sa, .string ra], va, .agg #[.int .i64 M, .string sb, .string rb], vb, .int .i64 x, .int .i64 u] w fun e w' => ∃ y : Int, e = .returned (.tuple #[.int .i64 y, .bool (repB r N sa ra la M sb rb lb u)]) ∧ Below w.heap.size w w'
set_option maxRecDepth 100000 in
theorem go_zero : GoC 0 := fun N sa ra la va M sb rb lb vb x w hx h1 h2 h3 h4 h5 h6 => by
  clear h1 h2 h3 h4 h5 h6
  have hx' : x = 0 := hx
  clear hx
  subst hx'
  have AW : Hid (Below w.heap.size w ((w.alloc (.cells #[.int .i64 N, .string sa, .string ra] 24)).alloc (.cells #[.int .i64 M, .string sb, .string rb] 24))) := ((Below.refl _ _).alloc (Nat.le_refl _) _).alloc (by simp) _
  go_enter Tryd.func108, Tryd.ntmps108
  go_wp2
  go_ret
  exact ⟨rfl, AW.out⟩
set_option maxHeartbeats 3200000 in
set_option maxRecDepth 100000 in
theorem go_succ (r : Nat) (hre : ReC r) (hr3 : r ≤ 80) : GoC (r + 1) := fun N sa ra la va M sb rb lb vb x w hx hsa hsb hla hlb hll hlr => by
  have e0 : (x == 0) = false := by
    have h : ¬ x = 0 := by rw [hx]; omega
    simpa using h
  have HRE := Lib.hid hre
  have HXX : Hid (x = (r : Int) + 1) := by rw [hx]; rfl
  clear hre hx
  have HSA := Lib.hid hsa
  have HSB := Lib.hid hsb
  have HLA := Lib.hid hla
  have HLB := Lib.hid hlb
  have HLL := Lib.hid hll
  have HLR := Lib.hid hlr
  obtain ⟨W2, hW2⟩ : ∃ QZ, QZ = (w.alloc (.cells #[.int .i64 N, .string sa, .string ra] 24)).alloc (.cells #[.int .i64 M, .string sb, .string rb] 24) := ⟨_, rfl⟩
  have HB2 : Hid (Box 24 W2 w.heap.size N sa ra ∧ Box 24 W2 (w.heap.size + 1) M sb rb ∧ Below w.heap.size w W2) := by
    rw [hW2]
    exact ⟨(Box.new 24 w _ rfl N sa ra).below ((Below.refl _ _).alloc (Nat.le_refl _) _) (Box.new 24 w _ rfl N sa ra).lt, Box.new 24 _ _ (by simp) M sb rb, ((Below.refl _ _).alloc (Nat.le_refl _) _).alloc (by simp) _⟩
  have hn8 : N ≤ 8 := hsa.1
  have hm8 : M ≤ 8 := hsb.1
  clear hsa hsb hla hlb hll hlr
  obtain ⟨G, hG⟩ : ∃ G, G = goB (r + 1) N sa ra la M sb rb lb := ⟨_, rfl⟩
  have HG := Lib.hid hG
  rw [← hG]
  clear hG
  go_enter Tryd.func108, Tryd.ntmps108
  obtain ⟨a0, a1, a2⟩ := HB2.out.1.c
  rw [hW2] at a0 a1 a2
  go_wp2_with fail
  rw [← hW2]
  clear a0 a1 a2 hW2
  go_loopw [21] (fun i wr => ∃ k : Nat, k ≤ N ∧ i = .int .i64 k ∧ Hid (∀ u, u < k → repB r N sa ra la M sb rb lb u = true) ∧ Hid (Below W2.heap.size W2 wr)) (fun i _ => N - (intOf i).toNat)
  case atStart => exact ⟨0, Nat.zero_le _, rfl, fun u hu => by omega, Below.refl _ _⟩
  case round =>
    obtain ⟨k, hk, rfl, HK, HX⟩ := hrel
    obtain ⟨a0, a1, a2⟩ := (HB2.out.1.below HX.out HB2.out.1.lt).c
    obtain ⟨b0, b1, b2⟩ := (HB2.out.2.1.below HX.out HB2.out.2.1.lt).c
    by_cases hkN : k < N
    · have HC := Lib.hid (HRE.out N sa ra la va M sb rb lb vb x k wr HXX.out hkN HSA.out HSB.out (HLA.out.below (HB2.out.2.2.trans (HX.out.mono HB2.out.2.2.size))) (HLB.out.below (HB2.out.2.2.trans (HX.out.mono HB2.out.2.2.size))) HLL.out (by have := HLR.out; omega))
      cases hrb : repB r N sa ra la M sb rb lb k with
      | false =>
        rw [hrb] at HC
        have HE : Hid (G = false) := by
          rw [Hid, HG.out, goB_succ]
          have : (List.range N).all (fun x => repB r N sa ra la M sb rb lb x) = false := by
            cases h : (List.range N).all (fun x => repB r N sa ra la M sb rb lb x) with
            | false => rfl
            | true => rw [List.all_eq_true.1 h k (List.mem_range.2 hkN)] at hrb; cases hrb
          rw [this]; rfl
        clear hrb
        go_wp2_with fail
        refine HC.out.mono ?_
        rintro eo w1 ⟨y, rfl, hb⟩
        have HB9 := Lib.hid (HB2.out.2.2.trans ((HX.out.trans (hb.mono HX.out.size)).mono HB2.out.2.2.size))
        clear hb a0 a1 a2 b0 b1 b2
        go_wp2
        go_ret
        exact ⟨by rw [HE.out]; rfl, HB9.out⟩
      | true =>
        rw [hrb] at HC
        have HK2 : Hid (∀ u, u < k + 1 → repB r N sa ra la M sb rb lb u = true) := fun u hu => by
          by_cases h : u = k
          · rw [h]; exact hrb
          · exact HK.out u (by omega)
        clear hrb
        go_wp2_with fail
        refine HC.out.mono ?_
        rintro eo w1 ⟨y, rfl, hb⟩
        have HX2 := Lib.hid (HX.out.trans (hb.mono HX.out.size))
        clear hb a0 a1 a2 b0 b1 b2
        go_wp2
        go_roundw
        case rel => exact ⟨k + 1, by omega, by go_num, HK2, HX2⟩
        case measure => simp [intOf]; omega
    · obtain rfl : k = N := by omega
      have HALL := HK
      clear hkN
      go_wp2_with fail
      clear a0 a1 a2 b0 b1 b2
      go_loopw [39] (fun i wr => ∃ j : Nat, j ≤ M ∧ i = .int .i64 j ∧ Hid (∀ u, u < j → repB r M sb rb lb k sa ra la u = true) ∧ Hid (Below W2.heap.size W2 wr)) (fun i _ => M - (intOf i).toNat)
      case atStart => exact ⟨0, Nat.zero_le _, rfl, fun u hu => by omega, HX.out⟩
      case round =>
        clear HX HK
        obtain ⟨j, hj, rfl, HK, HX⟩ := hrel
        obtain ⟨a0, a1, a2⟩ := (HB2.out.1.below HX.out HB2.out.1.lt).c
        obtain ⟨b0, b1, b2⟩ := (HB2.out.2.1.below HX.out HB2.out.2.1.lt).c
        by_cases hkM : j < M
        · have HC := Lib.hid (HRE.out M sb rb lb vb k sa ra la va x j _ HXX.out hkM HSB.out HSA.out (HLB.out.below (HB2.out.2.2.trans (HX.out.mono HB2.out.2.2.size))) (HLA.out.below (HB2.out.2.2.trans (HX.out.mono HB2.out.2.2.size))) HLL.out.symm (by have := HLR.out; have := HLL.out; omega))
          cases hrb : repB r M sb rb lb k sa ra la j with
          | false =>
            rw [hrb] at HC
            have HE : Hid (G = false) := by
              rw [Hid, HG.out, goB_succ]
              have : (List.range M).all (fun y => repB r M sb rb lb k sa ra la y) = false := by
                cases h : (List.range M).all (fun y => repB r M sb rb lb k sa ra la y) with
                | false => rfl
                | true => rw [List.all_eq_true.1 h j (List.mem_range.2 hkM)] at hrb; cases hrb
              rw [this]; exact Bool.and_false _
            clear hrb
            go_wp2_with fail
            refine HC.out.mono ?_
            rintro eo w1 ⟨y, rfl, hb⟩
            have HB9 := Lib.hid (HB2.out.2.2.trans ((HX.out.trans (hb.mono HX.out.size)).mono HB2.out.2.2.size))
            clear hb a0 a1 a2 b0 b1 b2
            go_wp2
            go_ret
            exact ⟨by rw [HE.out]; rfl, HB9.out⟩
          | true =>
            rw [hrb] at HC
            have HK2 : Hid (∀ u, u < j + 1 → repB r M sb rb lb k sa ra la u = true) := fun u hu => by
              by_cases h : u = j
              · rw [h]; exact hrb
              · exact HK.out u (by omega)
            clear hrb
            go_wp2_with fail
            refine HC.out.mono ?_
            rintro eo w1 ⟨y, rfl, hb⟩
            have HX2 := Lib.hid (HX.out.trans (hb.mono HX.out.size))
            clear hb a0 a1 a2 b0 b1 b2
            go_wp2
            go_roundw
            case rel => exact ⟨j + 1, by omega, by go_num, HK2, HX2⟩
            case measure => simp [intOf]; omega
        · obtain rfl : j = M := by omega
          have HE : Hid (G = true) := by
            rw [Hid, HG.out, goB_succ, List.all_eq_true.2 (fun u hu => HALL.out u (List.mem_range.1 hu)), List.all_eq_true.2 (fun u hu => HK.out u (List.mem_range.1 hu))]; rfl
          have HB9 := Lib.hid (HB2.out.2.2.trans (HX.out.mono HB2.out.2.2.size))
          clear hkM
          go_wp2
          go_ret
          exact ⟨by rw [HE.out]; rfl, HB9.out⟩
theorem cells6 {X : World} {h N M : Nat} {sa ra sb rb : ByteArray} (a : Box 24 X h N sa ra) (b : Box 24 X (h + 1) M sb rb) : X.cell? ⟨h, 0, none⟩ = some (.int .i64 N) ∧ X.cell? ⟨h, 1, none⟩ = some (.string sa) ∧ X.cell? ⟨h, 2, none⟩ = some (.string ra) ∧ X.cell? ⟨h + 1, 0, none⟩ = some (.int .i64 M) ∧ X.cell? ⟨h + 1, 1, none⟩ = some (.string sb) ∧ X.cell? ⟨h + 1, 2, none⟩ = some (.string rb) :=
  ⟨a.c.1, a.c.2.1, a.c.2.2, b.c.1, b.c.2.1, b.c.2.2⟩
set_option maxHeartbeats 3200000 in
set_option maxRecDepth 100000 in
theorem rep_of (r : Nat) (hgo : GoC r) (hr3 : r ≤ 80) : ReC r := fun N sa ra la va M sb rb lb vb x u w hx hu hsa hsb hla hlb hll hlr => by
  have HGO := Lib.hid hgo
  have hxr : IntKind.i64.wrap (x - 1) = (r : Int) := by rw [hx]; rw [show (r : Int) + 1 - 1 = r from by omega]; exact IntWalk.i64_in _ (by omega)
  have HXX := Lib.hid hx
  have HU := Lib.hid hu
  clear hgo hx
  have HSA := Lib.hid hsa
  have HSB := Lib.hid hsb
  have HLA := Lib.hid hla
  have HLB := Lib.hid hlb
  have HLL := Lib.hid hll
  have HLR := Lib.hid hlr
  obtain ⟨W2, hW2⟩ : ∃ QZ, QZ = (w.alloc (.cells #[.int .i64 N, .string sa, .string ra] 24)).alloc (.cells #[.int .i64 M, .string sb, .string rb] 24) := ⟨_, rfl⟩
  have HB2 : Hid (Box 24 W2 w.heap.size N sa ra ∧ Box 24 W2 (w.heap.size + 1) M sb rb ∧ Below w.heap.size w W2) := by
    rw [hW2]
    exact ⟨(Box.new 24 w _ rfl N sa ra).below ((Below.refl _ _).alloc (Nat.le_refl _) _) (Box.new 24 w _ rfl N sa ra).lt, Box.new 24 _ _ (by simp) M sb rb, ((Below.refl _ _).alloc (Nat.le_refl _) _).alloc (by simp) _⟩
  have hn8 : N ≤ 8 := hsa.1
  have hm8 : M ≤ 8 := hsb.1
  clear hsa hsb hla hlb hll hlr hu
  obtain ⟨G, hG⟩ : ∃ G, G = repB r N sa ra la M sb rb lb u := ⟨_, rfl⟩
  have HG := Lib.hid hG
  rw [← hG]
  clear hG
  have HSW : Hid (∀ W, Below W2.heap.size W2 W → Calls Tryd.prog 82 #[.agg #[.int .i64 N, .string sa, .string ra], va, .agg #[.int .i64 M, .string sb, .string rb], vb] W fun e w' => e = .returned (.bool (swB N sa ra la M sb rb lb)) ∧ Below W.heap.size W w') := fun W hW =>
    sameWay_any N sa ra la va M sb rb lb vb W HLL.out (by have := HLR.out; omega) HLA.out.2.2 HLB.out.2.2 HSA.out.1 HSB.out.1 HSA.out.2.1 HSA.out.2.2 HSB.out.2.1 HSB.out.2.2 (HLA.out.below (HB2.out.2.2.trans (hW.mono HB2.out.2.2.size))).1 (HLB.out.below (HB2.out.2.2.trans (hW.mono HB2.out.2.2.size))).1 HLA.out.2.1 HLB.out.2.1
  obtain ⟨a0, a1, a2⟩ := HB2.out.1.c
  obtain ⟨b0, b1, b2⟩ := HB2.out.2.1.c
  rw [hW2] at a0 a1 a2 b0 b1 b2
  cases hsw : swB N sa ra la M sb rb lb with
  | false =>
    rw [hsw] at HSW
    have HE : Hid (G = false) := by rw [Hid, HG.out]; unfold repB; rw [hsw]; rfl
    clear hsw
    go_enter Tryd.func146, Tryd.ntmps146
    go_wp2_with fail
    rw [← hW2]
    clear a0 a1 a2 b0 b1 b2 hW2
    refine (HSW.out _ (Below.refl _ _)).mono ?_
    rintro eo w1 ⟨rfl, hb⟩
    have HB9 := Lib.hid (HB2.out.2.2.trans (hb.mono HB2.out.2.2.size))
    clear hb
    go_wp2
    go_ret2
    exact ⟨_, by rw [HE.out]; rfl, HB9.out⟩
  | true =>
    rw [hsw] at HSW
    have HGA : Hid (G = (List.range M).any fun y => stB N sa ra la M sb rb lb u y && goB r N sa ra (la ++ [u]) M sb rb (lb ++ [y])) := by rw [Hid, HG.out]; unfold repB; rw [hsw]; rfl
    clear hsw
    go_enter Tryd.func146, Tryd.ntmps146
    go_wp2_with fail
    rw [← hW2]
    clear a0 a1 a2 b0 b1 b2 hW2
    refine (HSW.out _ (Below.refl _ _)).mono ?_
    rintro eo w1 ⟨rfl, hb⟩
    have HX0 := Lib.hid hb
    obtain ⟨b0, b1, b2⟩ := (HB2.out.2.1.below hb HB2.out.2.1.lt).c
    clear hb
    go_wp2_with fail
    clear b0 b1 b2
    go_loopw [23] (fun i wr => ∃ k : Nat, k ≤ M ∧ i = .int .i64 k ∧ Hid (∀ y, y < k → (stB N sa ra la M sb rb lb u y && goB r N sa ra (la ++ [u]) M sb rb (lb ++ [y])) = false) ∧ Hid (Below W2.heap.size W2 wr)) (fun i _ => M - (intOf i).toNat)
    case atStart => exact ⟨0, Nat.zero_le _, rfl, fun y hy => by omega, HX0.out⟩
    case round =>
      clear HX0
      obtain ⟨k, hk, rfl, HK, HX⟩ := hrel
      obtain ⟨a0, a1, a2⟩ := (HB2.out.1.below HX.out HB2.out.1.lt).c
      obtain ⟨b0, b1, b2⟩ := (HB2.out.2.1.below HX.out HB2.out.2.1.lt).c
      by_cases hkM : k < M
      · have HKM := Lib.hid hkM
        have q0 : ∀ QQ : Wd (fun Q => Q.cell? ⟨w.heap.size, 0, none⟩ = some (.int .i64 N) ∧ Q.cell? ⟨w.heap.size, 1, none⟩ = some (.string sa) ∧ Q.cell? ⟨w.heap.size, 2, none⟩ = some (.string ra) ∧ Q.cell? ⟨w.heap.size + 1, 0, none⟩ = some (.int .i64 M) ∧ Q.cell? ⟨w.heap.size + 1, 1, none⟩ = some (.string sb) ∧ Q.cell? ⟨w.heap.size + 1, 2, none⟩ = some (.string rb)), QQ.w.cell? ⟨w.heap.size, 0, none⟩ = some (.int .i64 N) := fun QQ => QQ.ok.1
        have q1 : ∀ QQ : Wd (fun Q => Q.cell? ⟨w.heap.size, 0, none⟩ = some (.int .i64 N) ∧ Q.cell? ⟨w.heap.size, 1, none⟩ = some (.string sa) ∧ Q.cell? ⟨w.heap.size, 2, none⟩ = some (.string ra) ∧ Q.cell? ⟨w.heap.size + 1, 0, none⟩ = some (.int .i64 M) ∧ Q.cell? ⟨w.heap.size + 1, 1, none⟩ = some (.string sb) ∧ Q.cell? ⟨w.heap.size + 1, 2, none⟩ = some (.string rb)), QQ.w.cell? ⟨w.heap.size, 1, none⟩ = some (.string sa) := fun QQ => QQ.ok.2.1
        have q2 : ∀ QQ : Wd (fun Q => Q.cell? ⟨w.heap.size, 0, none⟩ = some (.int .i64 N) ∧ Q.cell? ⟨w.heap.size, 1, none⟩ = some (.string sa) ∧ Q.cell? ⟨w.heap.size, 2, none⟩ = some (.string ra) ∧ Q.cell? ⟨w.heap.size + 1, 0, none⟩ = some (.int .i64 M) ∧ Q.cell? ⟨w.heap.size + 1, 1, none⟩ = some (.string sb) ∧ Q.cell? ⟨w.heap.size + 1, 2, none⟩ = some (.string rb)), QQ.w.cell? ⟨w.heap.size, 2, none⟩ = some (.string ra) := fun QQ => QQ.ok.2.2.1
        have q3 : ∀ QQ : Wd (fun Q => Q.cell? ⟨w.heap.size, 0, none⟩ = some (.int .i64 N) ∧ Q.cell? ⟨w.heap.size, 1, none⟩ = some (.string sa) ∧ Q.cell? ⟨w.heap.size, 2, none⟩ = some (.string ra) ∧ Q.cell? ⟨w.heap.size + 1, 0, none⟩ = some (.int .i64 M) ∧ Q.cell? ⟨w.heap.size + 1, 1, none⟩ = some (.string sb) ∧ Q.cell? ⟨w.heap.size + 1, 2, none⟩ = some (.string rb)), QQ.w.cell? ⟨w.heap.size + 1, 0, none⟩ = some (.int .i64 M) := fun QQ => QQ.ok.2.2.2.1
        have q4 : ∀ QQ : Wd (fun Q => Q.cell? ⟨w.heap.size, 0, none⟩ = some (.int .i64 N) ∧ Q.cell? ⟨w.heap.size, 1, none⟩ = some (.string sa) ∧ Q.cell? ⟨w.heap.size, 2, none⟩ = some (.string ra) ∧ Q.cell? ⟨w.heap.size + 1, 0, none⟩ = some (.int .i64 M) ∧ Q.cell? ⟨w.heap.size + 1, 1, none⟩ = some (.string sb) ∧ Q.cell? ⟨w.heap.size + 1, 2, none⟩ = some (.string rb)), QQ.w.cell? ⟨w.heap.size + 1, 1, none⟩ = some (.string sb) := fun QQ => QQ.ok.2.2.2.2.1
        have q5 : ∀ QQ : Wd (fun Q => Q.cell? ⟨w.heap.size, 0, none⟩ = some (.int .i64 N) ∧ Q.cell? ⟨w.heap.size, 1, none⟩ = some (.string sa) ∧ Q.cell? ⟨w.heap.size, 2, none⟩ = some (.string ra) ∧ Q.cell? ⟨w.heap.size + 1, 0, none⟩ = some (.int .i64 M) ∧ Q.cell? ⟨w.heap.size + 1, 1, none⟩ = some (.string sb) ∧ Q.cell? ⟨w.heap.size + 1, 2, none⟩ = some (.string rb)), QQ.w.cell? ⟨w.heap.size + 1, 2, none⟩ = some (.string rb) := fun QQ => QQ.ok.2.2.2.2.2
        have hne : Nonempty (Wd (fun Q => Q.cell? ⟨w.heap.size, 0, none⟩ = some (.int .i64 N) ∧ Q.cell? ⟨w.heap.size, 1, none⟩ = some (.string sa) ∧ Q.cell? ⟨w.heap.size, 2, none⟩ = some (.string ra) ∧ Q.cell? ⟨w.heap.size + 1, 0, none⟩ = some (.int .i64 M) ∧ Q.cell? ⟨w.heap.size + 1, 1, none⟩ = some (.string sb) ∧ Q.cell? ⟨w.heap.size + 1, 2, none⟩ = some (.string rb))) := ⟨⟨wr, ⟨a0, a1, a2, b0, b1, b2⟩⟩⟩
        cases hst : stB N sa ra la M sb rb lb u k with
        | false =>
          have HST := Lib.hid hst
          have HK2 : Hid (∀ y, y < k + 1 → (stB N sa ra la M sb rb lb u y && goB r N sa ra (la ++ [u]) M sb rb (lb ++ [y])) = false) := fun y hy => by
            by_cases h : y = k
            · rw [h, hst]; rfl
            · exact HK.out y (by omega)
          clear hst
          go_wp2_with fail
          refine chain (S := (fun Q => Q.cell? ⟨w.heap.size, 0, none⟩ = some (.int .i64 N) ∧ Q.cell? ⟨w.heap.size, 1, none⟩ = some (.string sa) ∧ Q.cell? ⟨w.heap.size, 2, none⟩ = some (.string ra) ∧ Q.cell? ⟨w.heap.size + 1, 0, none⟩ = some (.int .i64 M) ∧ Q.cell? ⟨w.heap.size + 1, 1, none⟩ = some (.string sb) ∧ Q.cell? ⟨w.heap.size + 1, 2, none⟩ = some (.string rb))) [([true, true, true, true, true, true], 6), ([false, false, false, false, false, false, false, true, true, true, true, false, true, true, true, false, true, true], 11), ([], 15), ([], 18)] [false, false, false, false, false, false, false, false, false, false, false, false, false, false, false, false, false, false, false, true] (by kernel_rfl) (by kernel_rfl) (by kernel_rfl) ⟨a0, a1, a2, b0, b1, b2⟩ ?_
          simp only [wpSegs, pickB, List.dropLast_cons_cons, List.dropLast_singleton, List.getLast?_cons_cons, List.getLast?_singleton, List.toList_toArray, List.getElem?_toArray, List.getElem?_cons_succ, List.getElem?_cons_zero, Option.toList_some]
          repeat (go_big_quiet_step (fail))
          refine wpQuiet_nil ?_
          intro K hK
          go_wp2_with fail
          refine (stillSame_any N sa ra la va M sb rb lb vb u k _ HU.out HKM.out HLL.out (by have := HLR.out; omega) HLA.out.2.2 HLB.out.2.2 HSA.out.1 HSB.out.1 HSA.out.2.1 HSA.out.2.2 HSB.out.2.1 HSB.out.2.2 (HLA.out.below (HB2.out.2.2.trans (HX.out.drew.mono HB2.out.2.2.size))).1 (HLB.out.below (HB2.out.2.2.trans (HX.out.drew.mono HB2.out.2.2.size))).1).mono ?_
          rintro er X1 ⟨rfl, hb⟩
          rw [HST.out]
          have HX1 : Hid (Below W2.heap.size W2 X1) := HX.out.drew.trans (hb.mono HX.out.size)
          clear hb
          go_wp2_with fail
          refine hK _ _ (cells6 (HB2.out.1.below HX1.out HB2.out.1.lt) (HB2.out.2.1.below HX1.out HB2.out.2.1.lt)) ?_
          clear hK K
          repeat (go_big_quiet_step (fail))
          refine wpQuiet_nil ?_
          intro K hK
          go_wp2_with fail
          skip
          refine hK _ _ (cells6 (HB2.out.1.below HX1.out HB2.out.1.lt) (HB2.out.2.1.below HX1.out HB2.out.2.1.lt)) ?_
          clear hK K
          repeat (go_big_quiet_step (fail))
          refine wpQuiet_nil ?_
          intro K hK
          go_wp2_with fail
          skip
          refine hK _ _ (cells6 (HB2.out.1.below HX1.out HB2.out.1.lt) (HB2.out.2.1.below HX1.out HB2.out.2.1.lt)) ?_
          clear hK K
          repeat (go_big_quiet_step (fail))
          refine wpQuiet_nil ?_
          intro K hK
          go_wp2_with fail
          skip
          refine hK _ _ (cells6 (HB2.out.1.below HX1.out HB2.out.1.lt) (HB2.out.2.1.below HX1.out HB2.out.2.1.lt)) ?_
          clear hK K
          repeat (go_big_quiet_step (fail))
          refine wpQuiet_nil ?_
          clear q0 q1 q2 q3 q4 q5 hne a0 a1 a2 b0 b1 b2
          go_wp2
          go_roundw
          case rel => exact ⟨k + 1, by omega, by go_num, HK2, HX1⟩
          case measure => simp [intOf]; omega
        | true =>
          have HST := Lib.hid hst
          cases hgb : goB r N sa ra (la ++ [u]) M sb rb (lb ++ [k]) with
          | false =>
            have HGB := Lib.hid hgb
            have HK2 : Hid (∀ y, y < k + 1 → (stB N sa ra la M sb rb lb u y && goB r N sa ra (la ++ [u]) M sb rb (lb ++ [y])) = false) := fun y hy => by
              by_cases h : y = k
              · rw [h, hgb]; exact Bool.and_false _
              · exact HK.out y (by omega)
            clear hst hgb
            go_wp2_with fail
            refine chain (S := (fun Q => Q.cell? ⟨w.heap.size, 0, none⟩ = some (.int .i64 N) ∧ Q.cell? ⟨w.heap.size, 1, none⟩ = some (.string sa) ∧ Q.cell? ⟨w.heap.size, 2, none⟩ = some (.string ra) ∧ Q.cell? ⟨w.heap.size + 1, 0, none⟩ = some (.int .i64 M) ∧ Q.cell? ⟨w.heap.size + 1, 1, none⟩ = some (.string sb) ∧ Q.cell? ⟨w.heap.size + 1, 2, none⟩ = some (.string rb))) [([true, true, true, true, true, true], 6), ([false, false, false, false, false, false, false, true, true, true, true, false, true, true, true, false, true, true], 11), ([], 15), ([], 18)] [false, false, false, false, false, false, false, false, false, false, false, false, false, false, false, false, false, false, false, true] (by kernel_rfl) (by kernel_rfl) (by kernel_rfl) ⟨a0, a1, a2, b0, b1, b2⟩ ?_
            simp only [wpSegs, pickB, List.dropLast_cons_cons, List.dropLast_singleton, List.getLast?_cons_cons, List.getLast?_singleton, List.toList_toArray, List.getElem?_toArray, List.getElem?_cons_succ, List.getElem?_cons_zero, Option.toList_some]
            repeat (go_big_quiet_step (fail))
            refine wpQuiet_nil ?_
            intro K hK
            go_wp2_with fail
            refine (stillSame_any N sa ra la va M sb rb lb vb u k _ HU.out HKM.out HLL.out (by have := HLR.out; omega) HLA.out.2.2 HLB.out.2.2 HSA.out.1 HSB.out.1 HSA.out.2.1 HSA.out.2.2 HSB.out.2.1 HSB.out.2.2 (HLA.out.below (HB2.out.2.2.trans (HX.out.drew.mono HB2.out.2.2.size))).1 (HLB.out.below (HB2.out.2.2.trans (HX.out.drew.mono HB2.out.2.2.size))).1).mono ?_
            rintro er X1 ⟨rfl, hb⟩
            rw [HST.out]
            have HX1 : Hid (Below W2.heap.size W2 X1) := HX.out.drew.trans (hb.mono HX.out.size)
            clear hb
            go_wp2_with fail
            refine hK _ _ (cells6 (HB2.out.1.below HX1.out HB2.out.1.lt) (HB2.out.2.1.below HX1.out HB2.out.2.1.lt)) ?_
            clear hK K
            repeat (go_big_quiet_step (fail))
            refine wpQuiet_nil ?_
            intro K hK
            go_wp2_with fail
            refine (with_any va (ints la) u _ (HLA.out.below (HB2.out.2.2.trans (HX1.out.mono HB2.out.2.2.size))).1 (by rw [ints_len]; have := HLR.out; have := HLL.out; omega)).mono ?_
            rintro er X2 ⟨v2, rfl, ho2, hb⟩
            have HX2 : Hid (Below W2.heap.size W2 X2) := HX1.out.trans (hb.mono HX1.out.size)
            have HO2 := Lib.hid (Ls.snoc ho2 HLA.out.2.2 HU.out)
            clear hb ho2
            go_wp2_with fail
            refine hK _ _ (cells6 (HB2.out.1.below HX2.out HB2.out.1.lt) (HB2.out.2.1.below HX2.out HB2.out.2.1.lt)) ?_
            clear hK K
            repeat (go_big_quiet_step (fail))
            refine wpQuiet_nil ?_
            intro K hK
            go_wp2_with fail
            refine (with_any vb (ints lb) k _ (HLB.out.below (HB2.out.2.2.trans (HX2.out.mono HB2.out.2.2.size))).1 (by rw [ints_len]; have := HLR.out; have := HLL.out; omega)).mono ?_
            rintro er X3 ⟨v3, rfl, ho3, hb⟩
            have HX3 : Hid (Below W2.heap.size W2 X3) := HX2.out.trans (hb.mono HX2.out.size)
            have HO3 := Lib.hid (show _ ∧ _ from ⟨HO2.out.below hb, Ls.snoc ho3 HLB.out.2.2 HKM.out⟩)
            clear hb ho3
            go_wp2_with fail
            refine hK _ _ (cells6 (HB2.out.1.below HX3.out HB2.out.1.lt) (HB2.out.2.1.below HX3.out HB2.out.2.1.lt)) ?_
            clear hK K
            repeat (go_big_quiet_step (fail))
            refine wpQuiet_nil ?_
            intro K hK
            go_wp2_with fail
            refine (HGO.out N sa ra (la ++ [u]) v2 M sb rb (lb ++ [k]) v3 _ _ (by first | rfl | go_num) HSA.out HSB.out HO3.out.1 HO3.out.2 (by rw [List.length_append, List.length_append, HLL.out]; rfl) (by rw [List.length_append]; have := HLR.out; show la.length + 1 + r ≤ 90; omega)).mono ?_
            rintro er X4 ⟨rfl, hb⟩
            rw [HGB.out]
            have HX4 : Hid (Below W2.heap.size W2 X4) := HX3.out.trans (hb.mono HX3.out.size)
            clear hb
            go_wp2_with fail
            refine hK _ _ (cells6 (HB2.out.1.below HX4.out HB2.out.1.lt) (HB2.out.2.1.below HX4.out HB2.out.2.1.lt)) ?_
            clear hK K
            repeat (go_big_quiet_step (fail))
            refine wpQuiet_nil ?_
            clear q0 q1 q2 q3 q4 q5 hne a0 a1 a2 b0 b1 b2
            go_wp2
            go_roundw
            case rel => exact ⟨k + 1, by omega, by go_num, HK2, HX4⟩
            case measure => simp [intOf]; omega
          | true =>
            have HGB := Lib.hid hgb
            have HE : Hid (G = true) := by rw [Hid, HGA.out]; exact List.any_eq_true.2 ⟨k, List.mem_range.2 hkM, by rw [hst, hgb]; rfl⟩
            clear hst hgb
            go_wp2_with fail
            refine chain (S := (fun Q => Q.cell? ⟨w.heap.size, 0, none⟩ = some (.int .i64 N) ∧ Q.cell? ⟨w.heap.size, 1, none⟩ = some (.string sa) ∧ Q.cell? ⟨w.heap.size, 2, none⟩ = some (.string ra) ∧ Q.cell? ⟨w.heap.size + 1, 0, none⟩ = some (.int .i64 M) ∧ Q.cell? ⟨w.heap.size + 1, 1, none⟩ = some (.string sb) ∧ Q.cell? ⟨w.heap.size + 1, 2, none⟩ = some (.string rb))) [([true, true, true, true, true, true], 6), ([false, false, false, false, false, false, false, true, true, true, true, false, true, true, true, false, true, true], 11), ([], 15), ([], 18)] [false, false, false, false, false, false, false, false, false, false, false, false, false, false, false, false, false, false, false, true] (by kernel_rfl) (by kernel_rfl) (by kernel_rfl) ⟨a0, a1, a2, b0, b1, b2⟩ ?_
            simp only [wpSegs, pickB, List.dropLast_cons_cons, List.dropLast_singleton, List.getLast?_cons_cons, List.getLast?_singleton, List.toList_toArray, List.getElem?_toArray, List.getElem?_cons_succ, List.getElem?_cons_zero, Option.toList_some]
            repeat (go_big_quiet_step (fail))
            refine wpQuiet_nil ?_
            intro K hK
            go_wp2_with fail
            refine (stillSame_any N sa ra la va M sb rb lb vb u k _ HU.out HKM.out HLL.out (by have := HLR.out; omega) HLA.out.2.2 HLB.out.2.2 HSA.out.1 HSB.out.1 HSA.out.2.1 HSA.out.2.2 HSB.out.2.1 HSB.out.2.2 (HLA.out.below (HB2.out.2.2.trans (HX.out.drew.mono HB2.out.2.2.size))).1 (HLB.out.below (HB2.out.2.2.trans (HX.out.drew.mono HB2.out.2.2.size))).1).mono ?_
            rintro er X1 ⟨rfl, hb⟩
            rw [HST.out]
            have HX1 : Hid (Below W2.heap.size W2 X1) := HX.out.drew.trans (hb.mono HX.out.size)
            clear hb
            go_wp2_with fail
            refine hK _ _ (cells6 (HB2.out.1.below HX1.out HB2.out.1.lt) (HB2.out.2.1.below HX1.out HB2.out.2.1.lt)) ?_
            clear hK K
            repeat (go_big_quiet_step (fail))
            refine wpQuiet_nil ?_
            intro K hK
            go_wp2_with fail
            refine (with_any va (ints la) u _ (HLA.out.below (HB2.out.2.2.trans (HX1.out.mono HB2.out.2.2.size))).1 (by rw [ints_len]; have := HLR.out; have := HLL.out; omega)).mono ?_
            rintro er X2 ⟨v2, rfl, ho2, hb⟩
            have HX2 : Hid (Below W2.heap.size W2 X2) := HX1.out.trans (hb.mono HX1.out.size)
            have HO2 := Lib.hid (Ls.snoc ho2 HLA.out.2.2 HU.out)
            clear hb ho2
            go_wp2_with fail
            refine hK _ _ (cells6 (HB2.out.1.below HX2.out HB2.out.1.lt) (HB2.out.2.1.below HX2.out HB2.out.2.1.lt)) ?_
            clear hK K
            repeat (go_big_quiet_step (fail))
            refine wpQuiet_nil ?_
            intro K hK
            go_wp2_with fail
            refine (with_any vb (ints lb) k _ (HLB.out.below (HB2.out.2.2.trans (HX2.out.mono HB2.out.2.2.size))).1 (by rw [ints_len]; have := HLR.out; have := HLL.out; omega)).mono ?_
            rintro er X3 ⟨v3, rfl, ho3, hb⟩
            have HX3 : Hid (Below W2.heap.size W2 X3) := HX2.out.trans (hb.mono HX2.out.size)
            have HO3 := Lib.hid (show _ ∧ _ from ⟨HO2.out.below hb, Ls.snoc ho3 HLB.out.2.2 HKM.out⟩)
            clear hb ho3
            go_wp2_with fail
            refine hK _ _ (cells6 (HB2.out.1.below HX3.out HB2.out.1.lt) (HB2.out.2.1.below HX3.out HB2.out.2.1.lt)) ?_
            clear hK K
            repeat (go_big_quiet_step (fail))
            refine wpQuiet_nil ?_
            intro K hK
            go_wp2_with fail
            refine (HGO.out N sa ra (la ++ [u]) v2 M sb rb (lb ++ [k]) v3 _ _ (by first | rfl | go_num) HSA.out HSB.out HO3.out.1 HO3.out.2 (by rw [List.length_append, List.length_append, HLL.out]; rfl) (by rw [List.length_append]; have := HLR.out; show la.length + 1 + r ≤ 90; omega)).mono ?_
            rintro er X4 ⟨rfl, hb⟩
            rw [HGB.out]
            have HX4 : Hid (Below W2.heap.size W2 X4) := HX3.out.trans (hb.mono HX3.out.size)
            clear hb
            go_wp2_with fail
            refine hK _ _ (cells6 (HB2.out.1.below HX4.out HB2.out.1.lt) (HB2.out.2.1.below HX4.out HB2.out.2.1.lt)) ?_
            clear hK K
            repeat (go_big_quiet_step (fail))
            refine wpQuiet_nil ?_
            clear q0 q1 q2 q3 q4 q5 hne a0 a1 a2 b0 b1 b2
            have HB9 := Lib.hid (HB2.out.2.2.trans (HX4.out.mono HB2.out.2.2.size))
            go_wp2
            go_ret2
            exact ⟨_, by rw [HE.out]; rfl, HB9.out⟩
      · obtain rfl : k = M := by omega
        have HE : Hid (G = false) := by
          rw [Hid, HGA.out]
          cases h : (List.range k).any fun y => stB N sa ra la k sb rb lb u y && goB r N sa ra (la ++ [u]) k sb rb (lb ++ [y]) with
          | false => rfl
          | true =>
            obtain ⟨y, hy, h2⟩ := List.any_eq_true.1 h
            rw [HK.out y (List.mem_range.1 hy)] at h2; cases h2
        have HB9 := Lib.hid (HB2.out.2.2.trans (HX.out.mono HB2.out.2.2.size))
        clear hkM a0 a1 a2
        go_wp2
        go_ret2
        exact ⟨_, by rw [HE.out]; rfl, HB9.out⟩
theorem go_all : ∀ r, r ≤ 80 → GoC r
  | 0, _ => go_zero
  | r + 1, h => go_succ r (rep_of r (go_all r (by omega)) (by omega)) (by omega)
end Go.Proofs.YtpcnoiigbmiejaaDoor.gow

/- Games of the program: secondWins, isGame, SecondWins, SameRank. -/
namespace Go.Proofs.YtpcnoiigbmiejaaDoor.gox
set_option linter.unusedVariables false
set_option linter.unusedSimpArgs false
open Go.ChangeShapes Go.WideShapes Go.ChangeAt Go.RowKit
open Go.Proofs.YtpcnoiigbmiejaaDoor.lib Go.Proofs.YtpcnoiigbmiejaaDoor.st Go.Proofs.YtpcnoiigbmiejaaDoor.base Go.Proofs.YtpcnoiigbmiejaaDoor.flow Go.Proofs.YtpcnoiigbmiejaaDoor.chain Go.Proofs.YtpcnoiigbmiejaaDoor.fits Go.Proofs.YtpcnoiigbmiejaaDoor.still Go.Proofs.YtpcnoiigbmiejaaDoor.gob Go.Proofs.YtpcnoiigbmiejaaDoor.gow Go.Proofs.YtpcnoiigbmiejaaDoor.pairL Go.Proofs.YtpcnoiigbmiejaaDoor.ispart

set_option maxHeartbeats 1600000 in
set_option maxRecDepth 100000 in
theorem secondWins_any (rr : Nat) (hr3 : rr ≤ 80) (N : Nat) (sa ra : ByteArray) (la : List Nat) (va : Value) (M : Nat) (sb rb : ByteArray) (lb : List Nat) (vb : Value) (x : Int) (w : World) (hx : x = rr) (hsa : Sc N sa ra) (hsb : Sc M sb rb) (hla : Ls w va la N) (hlb : Ls w vb lb M) (hll : la.length = lb.length) (hlr : la.length + rr ≤ 90) :
    Calls Tryd.prog 58 #[.agg #[.int .i64 N, .string sa, .string ra], va, .agg #[.int .i64 M, .string sb, .string rb], vb, .int .i64 x] w fun e w' => e = .returned (.bool (winB rr N sa ra la M sb rb lb)) ∧ Below w.heap.size w w' := by
  have HXX := Lib.hid hx
  have HR3 := Lib.hid hr3
  clear hx hr3
  have HSA := Lib.hid hsa
  have HSB := Lib.hid hsb
  have HLA := Lib.hid hla
  have HLB := Lib.hid hlb
  have HLL := Lib.hid hll
  have HLR := Lib.hid hlr
  obtain ⟨W2, hW2⟩ : ∃ QZ, QZ = (w.alloc (.cells #[.int .i64 N, .string sa, .string ra] 24)).alloc (.cells #[.int .i64 M, .string sb, .string rb] 24) := ⟨_, rfl⟩
  have HB2 : Hid (Box 24 W2 w.heap.size N sa ra ∧ Box 24 W2 (w.heap.size + 1) M sb rb ∧ Below w.heap.size w W2) := by
    rw [hW2]
    exact ⟨(Box.new 24 w _ rfl N sa ra).below ((Below.refl _ _).alloc (Nat.le_refl _) _) (Box.new 24 w _ rfl N sa ra).lt, Box.new 24 _ _ (by simp) M sb rb, ((Below.refl _ _).alloc (Nat.le_refl _) _).alloc (by simp) _⟩
  clear hsa hsb hla hlb hll hlr
  obtain ⟨G, hG⟩ : ∃ G, G = winB rr N sa ra la M sb rb lb := ⟨_, rfl⟩
  have HG := Lib.hid hG
  rw [← hG]
  have HSW : Hid (∀ W, Below W2.heap.size W2 W → Calls Tryd.prog 82 #[.agg #[.int .i64 N, .string sa, .string ra], va, .agg #[.int .i64 M, .string sb, .string rb], vb] W fun e w' => e = .returned (.bool (swB N sa ra la M sb rb lb)) ∧ Below W.heap.size W w') := fun W hW =>
    sameWay_any N sa ra la va M sb rb lb vb W HLL.out (by have := HLR.out; omega) HLA.out.2.2 HLB.out.2.2 HSA.out.1 HSB.out.1 HSA.out.2.1 HSA.out.2.2 HSB.out.2.1 HSB.out.2.2 (HLA.out.below (HB2.out.2.2.trans (hW.mono HB2.out.2.2.size))).1 (HLB.out.below (HB2.out.2.2.trans (hW.mono HB2.out.2.2.size))).1 HLA.out.2.1 HLB.out.2.1
  have HW2 := Lib.hid hW2
  obtain ⟨a0, a1, a2⟩ := HB2.out.1.c
  obtain ⟨b0, b1, b2⟩ := HB2.out.2.1.c
  rw [hW2] at a0 a1 a2 b0 b1 b2
  clear hG hW2
  cases hsw : swB N sa ra la M sb rb lb with
  | false =>
    rw [hsw] at HSW
    have HE : Hid (G = false) := by rw [Hid, HG.out]; unfold winB; rw [hsw]; rfl
    clear hsw
    go_enter Tryd.func58, Tryd.ntmps58
    go_wp2_with fail
    rw [← HW2.out]
    clear a0 a1 a2 b0 b1 b2
    refine (HSW.out _ (Below.refl _ _)).mono ?_
    rintro eo w1 ⟨rfl, hb⟩
    have HB9 := Lib.hid (HB2.out.2.2.trans (hb.mono HB2.out.2.2.size))
    clear hb
    go_wp2
    go_ret
    exact ⟨by rw [HE.out]; rfl, HB9.out⟩
  | true =>
    rw [hsw] at HSW
    have HE : Hid (G = goB rr N sa ra la M sb rb lb) := by rw [Hid, HG.out]; unfold winB; rw [hsw]; rfl
    clear hsw
    go_enter Tryd.func58, Tryd.ntmps58
    go_wp2_with fail
    rw [← HW2.out]
    clear a0 a1 a2 b0 b1 b2
    refine (HSW.out _ (Below.refl _ _)).mono ?_
    rintro eo w1 ⟨rfl, hb⟩
    have HX := Lib.hid hb
    clear hb
    obtain ⟨a0, a1, a2⟩ := (HB2.out.1.below HX.out HB2.out.1.lt).c
    obtain ⟨b0, b1, b2⟩ := (HB2.out.2.1.below HX.out HB2.out.2.1.lt).c
    go_wp2_with fail
    refine (go_all rr HR3.out N sa ra la va M sb rb lb vb x w1 HXX.out HSA.out HSB.out (HLA.out.below (HB2.out.2.2.trans (HX.out.mono HB2.out.2.2.size))) (HLB.out.below (HB2.out.2.2.trans (HX.out.mono HB2.out.2.2.size))) HLL.out HLR.out).mono ?_
    rintro eo w2 ⟨rfl, hb⟩
    have HB9 := Lib.hid (HB2.out.2.2.trans ((HX.out.trans (hb.mono HX.out.size)).mono HB2.out.2.2.size))
    clear hb a0 a1 a2 b0 b1 b2
    rw [← HE.out]
    go_wp2
    go_ret
    exact ⟨rfl, HB9.out⟩
/-- whether the arguments of a game are valid -/
def gmB (n : Int) (s r : ByteArray) (la : List Int) (m : Int) (t q : ByteArray) (lb : List Int) (x : Int) : Bool := okLs n s r la m t q lb && (decide (0 ≤ x) && decide (x ≤ 3))
set_option maxHeartbeats 1600000 in
set_option maxRecDepth 100000 in
theorem isGame_any (n : Int) (s r : ByteArray) (va : Value) (la : List Int) (m : Int) (t q : ByteArray) (vb : Value) (lb : List Int) (x : Int) (w : World) (ha : Reads w va la) (hb : Reads w vb lb) (hla : la.length ≤ 17592186044416) (hlb : lb.length ≤ 17592186044416)
    (hs : s.size ≤ 9223372036854775807) (hr : r.size ≤ 9223372036854775807) (ht : t.size ≤ 9223372036854775807) (hq : q.size ≤ 9223372036854775807) :
    Calls Tryd.prog 57 #[.agg #[.int .i64 n, .string s, .string r], va, .agg #[.int .i64 m, .string t, .string q], vb, .int .i64 x] w fun e w' => e = .returned (.bool (gmB n s r la m t q lb x)) ∧ Below w.heap.size w w' := by
  obtain ⟨W2, hW2⟩ : ∃ QZ, QZ = (w.alloc (.cells #[.int .i64 n, .string s, .string r] 24)).alloc (.cells #[.int .i64 m, .string t, .string q] 24) := ⟨_, rfl⟩
  have HB2 : Hid (Box 24 W2 w.heap.size n s r ∧ Box 24 W2 (w.heap.size + 1) m t q ∧ Below w.heap.size w W2) := by
    rw [hW2]
    exact ⟨(Box.new 24 w _ rfl n s r).below ((Below.refl _ _).alloc (Nat.le_refl _) _) (Box.new 24 w _ rfl n s r).lt, Box.new 24 _ _ (by simp) m t q, ((Below.refl _ _).alloc (Nat.le_refl _) _).alloc (by simp) _⟩
  have HC : Hid (Calls Tryd.prog 107 #[.agg #[.int .i64 n, .string s, .string r], va, .agg #[.int .i64 m, .string t, .string q], vb] W2 fun e w' => e = .returned (.bool (okLs n s r la m t q lb)) ∧ Below W2.heap.size W2 w') := areLists_any n s r va la m t q vb lb W2 (ha.below HB2.out.2.2 (Nat.le_refl _)) (hb.below HB2.out.2.2 (Nat.le_refl _)) hla hlb hs hr ht hq
  have HW2 := Lib.hid hW2
  obtain ⟨a0, a1, a2⟩ := HB2.out.1.c
  obtain ⟨b0, b1, b2⟩ := HB2.out.2.1.c
  rw [hW2] at a0 a1 a2 b0 b1 b2
  clear ha hb hla hlb hs hr ht hq hW2
  obtain ⟨o, ho⟩ : ∃ o, o = okLs n s r la m t q lb := ⟨_, rfl⟩
  have HG : Hid (gmB n s r la m t q lb x = (o && (decide (0 ≤ x) && decide (x ≤ 3)))) := by rw [ho]; rfl
  rw [← ho] at HC
  clear ho
  have step : ∀ (d1 d2 : Bool), decide (0 ≤ x) = d1 → decide (x ≤ 3) = d2 → Calls Tryd.prog 57 #[.agg #[.int .i64 n, .string s, .string r], va, .agg #[.int .i64 m, .string t, .string q], vb, .int .i64 x] w fun e w' => e = .returned (.bool (o && (d1 && d2))) ∧ Below w.heap.size w w' := fun d1 d2 h1 h2 => by
    cases o with
    | false =>
      go_enter Tryd.func57, Tryd.ntmps57
      go_wp2_with fail
      rw [← HW2.out]
      clear a0 a1 a2 b0 b1 b2
      refine HC.out.mono ?_
      rintro eo w1 ⟨rfl, hb⟩
      have HB9 := Lib.hid (HB2.out.2.2.trans (hb.mono HB2.out.2.2.size))
      clear hb
      go_wp2
      go_ret
      exact ⟨rfl, HB9.out⟩
    | true =>
      cases d1 with
      | false =>
        go_enter Tryd.func57, Tryd.ntmps57
        go_wp2_with fail
        rw [← HW2.out]
        clear a0 a1 a2 b0 b1 b2
        refine HC.out.mono ?_
        rintro eo w1 ⟨rfl, hb⟩
        have HB9 := Lib.hid (HB2.out.2.2.trans (hb.mono HB2.out.2.2.size))
        clear hb
        go_wp2
        go_ret
        exact ⟨rfl, HB9.out⟩
      | true =>
        cases d2 with
        | false =>
          go_enter Tryd.func57, Tryd.ntmps57
          go_wp2_with fail
          rw [← HW2.out]
          clear a0 a1 a2 b0 b1 b2
          refine HC.out.mono ?_
          rintro eo w1 ⟨rfl, hb⟩
          have HB9 := Lib.hid (HB2.out.2.2.trans (hb.mono HB2.out.2.2.size))
          clear hb
          go_wp2
          go_ret
          exact ⟨rfl, HB9.out⟩
        | true =>
          go_enter Tryd.func57, Tryd.ntmps57
          go_wp2_with fail
          rw [← HW2.out]
          clear a0 a1 a2 b0 b1 b2
          refine HC.out.mono ?_
          rintro eo w1 ⟨rfl, hb⟩
          have HB9 := Lib.hid (HB2.out.2.2.trans (hb.mono HB2.out.2.2.size))
          clear hb
          go_wp2
          go_ret
          exact ⟨rfl, HB9.out⟩
  rw [HG.out]
  exact step _ _ rfl rfl
/-- what SecondWins reports -/
def swnB (n : Int) (s r : ByteArray) (la : List Int) (m : Int) (t q : ByteArray) (lb : List Int) (x : Int) : Bool := gmB n s r la m t q lb x && winB x.toNat n.toNat s r (nats la) m.toNat t q (nats lb)
set_option maxHeartbeats 1600000 in
set_option maxRecDepth 100000 in
theorem implSecondWins_any (n : Int) (s r : ByteArray) (va : Value) (la : List Int) (m : Int) (t q : ByteArray) (vb : Value) (lb : List Int) (x : Int) (w : World) (ha : Reads w va la) (hb : Reads w vb lb) (hla : la.length ≤ 17592186044416) (hlb : lb.length ≤ 17592186044416)
    (hs : s.size ≤ 9223372036854775807) (hr : r.size ≤ 9223372036854775807) (ht : t.size ≤ 9223372036854775807) (hq : q.size ≤ 9223372036854775807) (hroom : okLs n s r la m t q lb = true → Room va ∧ Room vb) :
    Calls Tryd.prog 17 #[.agg #[.int .i64 n, .string s, .string r], va, .agg #[.int .i64 m, .string t, .string q], vb, .int .i64 x] w fun e w' => e = .returned (.bool (swnB n s r la m t q lb x)) ∧ Below w.heap.size w w' := by
  obtain ⟨W2, hW2⟩ : ∃ QZ, QZ = (w.alloc (.cells #[.int .i64 n, .string s, .string r] 24)).alloc (.cells #[.int .i64 m, .string t, .string q] 24) := ⟨_, rfl⟩
  have HB2 : Hid (Box 24 W2 w.heap.size n s r ∧ Box 24 W2 (w.heap.size + 1) m t q ∧ Below w.heap.size w W2) := by
    rw [hW2]
    exact ⟨(Box.new 24 w _ rfl n s r).below ((Below.refl _ _).alloc (Nat.le_refl _) _) (Box.new 24 w _ rfl n s r).lt, Box.new 24 _ _ (by simp) m t q, ((Below.refl _ _).alloc (Nat.le_refl _) _).alloc (by simp) _⟩
  have HC : Hid (Calls Tryd.prog 57 #[.agg #[.int .i64 n, .string s, .string r], va, .agg #[.int .i64 m, .string t, .string q], vb, .int .i64 x] W2 fun e w' => e = .returned (.bool (gmB n s r la m t q lb x)) ∧ Below W2.heap.size W2 w') := isGame_any n s r va la m t q vb lb x W2 (ha.below HB2.out.2.2 (Nat.le_refl _)) (hb.below HB2.out.2.2 (Nat.le_refl _)) hla hlb hs hr ht hq
  have HRD := Lib.hid (show _ ∧ _ from ⟨ha, hb⟩)
  have HRM := Lib.hid hroom
  have HW2 := Lib.hid hW2
  obtain ⟨a0, a1, a2⟩ := HB2.out.1.c
  obtain ⟨b0, b1, b2⟩ := HB2.out.2.1.c
  rw [hW2] at a0 a1 a2 b0 b1 b2
  clear ha hb hla hlb hs hr ht hq hW2 hroom
  cases hg : gmB n s r la m t q lb x with
  | false =>
    rw [hg] at HC
    have HE : Hid (swnB n s r la m t q lb x = false) := by unfold Hid swnB; rw [hg]; rfl
    clear hg
    go_enter Tryd.func17, Tryd.ntmps17
    go_wp2_with fail
    rw [← HW2.out]
    clear a0 a1 a2 b0 b1 b2
    refine HC.out.mono ?_
    rintro eo w1 ⟨rfl, hb⟩
    have HB9 := Lib.hid (HB2.out.2.2.trans (hb.mono HB2.out.2.2.size))
    clear hb
    go_wp2
    go_ret
    exact ⟨by rw [HE.out]; rfl, HB9.out⟩
  | true =>
    rw [hg] at HC
    have hg2 := hg
    unfold gmB at hg2
    rw [Bool.and_eq_true, Bool.and_eq_true] at hg2
    obtain ⟨hk, hx0, hx3⟩ := hg2
    have hx0 := of_decide_eq_true hx0
    have hx3 := of_decide_eq_true hx3
    have hrm := HRM.out hk
    have HE : Hid (swnB n s r la m t q lb x = winB x.toNat n.toNat s r (nats la) m.toNat t q (nats lb)) := by unfold Hid swnB; rw [hg]; rfl
    obtain ⟨N, M, rfl, rfl, n1, n8, m1, m8, v1, v2, z1, z2, z3, z4, hl, h4, ea, eb, pa, pb⟩ := ok_facts hk
    obtain ⟨R, rfl⟩ : ∃ R : Nat, x = R := ⟨x.toNat, by omega⟩
    have HCW : Hid (∀ W, Reads W va la → Reads W vb lb → Calls Tryd.prog 58 #[.agg #[.int .i64 N, .string s, .string r], va, .agg #[.int .i64 M, .string t, .string q], vb, .int .i64 R] W fun e w' => e = .returned (.bool (winB R N s r (nats la) M t q (nats lb))) ∧ Below W.heap.size W w') := fun W h1 h2 =>
      secondWins_any R (by omega) N s r (nats la) va M t q (nats lb) vb R W rfl ⟨n8, z1, z2⟩ ⟨m8, z3, z4⟩ ⟨by rw [ea]; exact h1, hrm.1, pa⟩ ⟨by rw [eb]; exact h2, hrm.2, pb⟩ (by rw [nats_len, nats_len]; exact hl) (by rw [nats_len]; omega)
    have HE2 : Hid (swnB N s r la M t q lb R = winB R N s r (nats la) M t q (nats lb)) := by rw [Hid, HE.out]; rfl
    clear hg hk hrm ea eb pa pb HE hx0 hx3 hl h4 z1 z2 z3 z4 v1 v2 n1 n8 m1 m8
    obtain ⟨G, hG⟩ : ∃ G, G = winB R N s r (nats la) M t q (nats lb) := ⟨_, rfl⟩
    rw [← hG] at HE2 HCW
    clear hG
    go_enter Tryd.func17, Tryd.ntmps17
    go_wp2_with fail
    rw [← HW2.out]
    clear a0 a1 a2 b0 b1 b2
    refine HC.out.mono ?_
    rintro eo w1 ⟨rfl, hb⟩
    have HX := Lib.hid hb
    clear hb
    obtain ⟨a0, a1, a2⟩ := (HB2.out.1.below HX.out HB2.out.1.lt).c
    obtain ⟨b0, b1, b2⟩ := (HB2.out.2.1.below HX.out HB2.out.2.1.lt).c
    go_wp2_with fail
    refine (HCW.out _ (HRD.out.1.below (HB2.out.2.2.trans (HX.out.mono HB2.out.2.2.size)) (Nat.le_refl _)) (HRD.out.2.below (HB2.out.2.2.trans (HX.out.mono HB2.out.2.2.size)) (Nat.le_refl _))).mono ?_
    rintro eo w2 ⟨rfl, hb⟩
    have HB9 := Lib.hid (HB2.out.2.2.trans ((HX.out.trans (hb.mono HX.out.size)).mono HB2.out.2.2.size))
    clear hb a0 a1 a2 b0 b1 b2
    rw [← HE2.out]
    go_wp2
    go_ret
    exact ⟨rfl, HB9.out⟩
set_option maxHeartbeats 1600000 in
set_option maxRecDepth 100000 in
theorem implSameRank_any (n : Int) (s r : ByteArray) (m : Int) (t q : ByteArray) (x : Int) (w : World)
    (hs : s.size ≤ 9223372036854775807) (hr : r.size ≤ 9223372036854775807) (ht : t.size ≤ 9223372036854775807) (hq : q.size ≤ 9223372036854775807) :
    Calls Tryd.prog 10 #[.agg #[.int .i64 n, .string s, .string r], .agg #[.int .i64 m, .string t, .string q], .int .i64 x] w fun e w' => e = .returned (.bool (swnB n s r [] m t q [] x)) ∧ Below w.heap.size w w' := by
  have nil : ∀ W : World, Reads W (.slice none 0 0) [] := fun W => ⟨none, 0, rfl, .inl rfl, fun _ => ⟨rfl, rfl⟩⟩
  have HC := Lib.hid (fun W => implSecondWins_any n s r (.slice none 0 0) [] m t q (.slice none 0 0) [] x W (nil W) (nil W) (by decide) (by decide) hs hr ht hq (fun _ => ⟨⟨Nat.le_refl _, by decide⟩, Nat.le_refl _, by decide⟩))
  have HB0 : Hid (Below w.heap.size w ((w.alloc (.cells #[.int .i64 n, .string s, .string r] 24)).alloc (.cells #[.int .i64 m, .string t, .string q] 24))) := ((Below.refl _ _).alloc (Nat.le_refl _) _).alloc (by simp) _
  clear hs hr ht hq nil
  obtain ⟨W2, hW2⟩ : ∃ QZ, QZ = (w.alloc (.cells #[.int .i64 n, .string s, .string r] 24)).alloc (.cells #[.int .i64 m, .string t, .string q] 24) := ⟨_, rfl⟩
  rw [← hW2] at HB0
  have HW2 := Lib.hid hW2
  clear hW2
  go_enter Tryd.func10, Tryd.ntmps10
  go_wp2_with fail
  rw [← HW2.out]
  refine (HC.out _).mono ?_
  rintro eo w1 ⟨rfl, hb⟩
  have HB9 := Lib.hid (HB0.out.trans (hb.mono HB0.out.size))
  clear hb
  go_wp2
  go_ret
  exact ⟨rfl, HB9.out⟩
end Go.Proofs.YtpcnoiigbmiejaaDoor.gox
