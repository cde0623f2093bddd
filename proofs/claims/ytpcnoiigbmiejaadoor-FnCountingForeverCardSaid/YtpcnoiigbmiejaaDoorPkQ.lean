/- Several texts in one: GoB, Gow, Gox. -/
import Derived.Test.YtpcnoiigbmiejaaDoorGame
import Derived.Test.YtpcnoiigbmiejaaDoorPkJ
import Derived.Test.YtpcnoiigbmiejaaDoorChain
import Derived.Test.YtpcnoiigbmiejaaDoorSl
import Derived.Test.YtpcnoiigbmiejaaDoorNear
/- What the program's games compute, in plain words. -/
namespace Go.Proofs.YtpcnoiigbmiejaaDoor.gob
set_option linter.unusedVariables false
set_option linter.unusedSimpArgs false
open Go.Proofs.YtpcnoiigbmiejaaDoor.base Go.Proofs.YtpcnoiigbmiejaaDoor.still Go.Proofs.YtpcnoiigbmiejaaDoor.game

/-- the structure by its bits -/
def gr (N : Nat) (s r : ByteArray) : Gr := ⟨N, bitAt s, fun x y => bitAt r (x * N + y)⟩
def Els (N : Nat) (l : List Nat) : Prop := ∀ x, x ∈ l → x < N
theorem Els.snoc {N : Nat} {l : List Nat} (h : Els N l) {x : Nat} (hx : x < N) : Els N (l ++ [x]) := fun y hy => by
  rcases List.mem_append.1 hy with h' | h'
  · exact h y h'
  · rw [List.mem_singleton.1 h']; exact hx
theorem Els.get {N : Nat} {l : List Nat} (h : Els N l) {i : Nat} (hi : i < l.length) : l.getD i 0 < N := by
  rw [List.getD_eq_getElem?_getD, List.getElem?_eq_getElem hi]
  exact h _ (List.getElem_mem _)
theorem mem_zip {xs ys : List Nat} (hl : xs.length = ys.length) {p : Nat × Nat} : p ∈ xs.zip ys ↔ ∃ i, i < xs.length ∧ p = (xs.getD i 0, ys.getD i 0) := by
  rw [List.mem_iff_getElem]
  constructor
  · rintro ⟨i, hi, rfl⟩
    rw [List.length_zip] at hi
    refine ⟨i, by omega, ?_⟩
    rw [List.getElem_zip, List.getD_eq_getElem?_getD, List.getD_eq_getElem?_getD, List.getElem?_eq_getElem (by omega), List.getElem?_eq_getElem (by omega)]
    rfl
  · rintro ⟨i, hi, rfl⟩
    refine ⟨i, by rw [List.length_zip]; omega, ?_⟩
    rw [List.getElem_zip, List.getD_eq_getElem?_getD, List.getD_eq_getElem?_getD, List.getElem?_eq_getElem (by omega), List.getElem?_eq_getElem (by omega)]
    rfl
section
variable {N : Nat} {sa ra : ByteArray} {M : Nat} {sb rb : ByteArray} {la lb : List Nat}
theorem stp_iff {x y k : Nat} : stpB N ra M rb la lb x y k = true ↔ (la.getD k 0 = x ↔ lb.getD k 0 = y) ∧ bitAt ra (la.getD k 0 * N + x) = bitAt rb (lb.getD k 0 * M + y) ∧ bitAt ra (x * N + la.getD k 0) = bitAt rb (y * M + lb.getD k 0) := by
  unfold stpB
  rw [Bool.and_eq_true, Bool.and_eq_true, beq_iff_eq, beq_iff_eq, beq_iff_eq, Bool.eq_iff_iff, beq_iff_eq, beq_iff_eq]
  constructor
  · rintro ⟨h1, h2⟩; exact ⟨⟨fun e => by have := h1.1 (by omega); omega, fun e => by have := h1.2 (by omega); omega⟩, h2⟩
  · rintro ⟨h1, h2⟩; exact ⟨⟨fun e => by have := h1.1 (by omega); omega, fun e => by have := h1.2 (by omega); omega⟩, h2⟩
theorem st_iff {x y : Nat} : stB N sa ra la M sb rb lb x y = true ↔ bitAt sa x = bitAt sb y ∧ bitAt ra (x * N + x) = bitAt rb (y * M + y) ∧ ∀ k, k < la.length → (la.getD k 0 = x ↔ lb.getD k 0 = y) ∧ bitAt ra (la.getD k 0 * N + x) = bitAt rb (lb.getD k 0 * M + y) ∧ bitAt ra (x * N + la.getD k 0) = bitAt rb (y * M + lb.getD k 0) := by
  unfold stB
  rw [Bool.and_eq_true, Bool.and_eq_true, beq_iff_eq, beq_iff_eq, List.all_eq_true]
  constructor
  · rintro ⟨h1, h2, h3⟩; exact ⟨h1, h2, fun k hk => stp_iff.1 (h3 k (List.mem_range.2 hk))⟩
  · rintro ⟨h1, h2, h3⟩; exact ⟨h1, h2, fun k hk => stp_iff.2 (h3 k (List.mem_range.1 hk))⟩
theorem getD_take {l : List Nat} {i k : Nat} (h : k < i) : (l.take i).getD k 0 = l.getD k 0 := by
  simp [List.getD_eq_getElem?_getD, List.getElem?_take, h]
/-- lists in the same way -/
theorem sw_way (hl : la.length = lb.length) (ha : Els N la) (hb : Els M lb) : swB N sa ra la M sb rb lb = true ↔ Gway (gr N sa ra) (gr M sb rb) (la.zip lb) := by
  unfold swB
  rw [List.all_eq_true]
  have hst : ∀ i, i < la.length → (stB N sa ra (la.take i) M sb rb (lb.take i) (la.getD i 0) (lb.getD i 0) = true ↔ bitAt sa (la.getD i 0) = bitAt sb (lb.getD i 0) ∧ bitAt ra (la.getD i 0 * N + la.getD i 0) = bitAt rb (lb.getD i 0 * M + lb.getD i 0) ∧ ∀ k, k < i → (la.getD k 0 = la.getD i 0 ↔ lb.getD k 0 = lb.getD i 0) ∧ bitAt ra (la.getD k 0 * N + la.getD i 0) = bitAt rb (lb.getD k 0 * M + lb.getD i 0) ∧ bitAt ra (la.getD i 0 * N + la.getD k 0) = bitAt rb (lb.getD i 0 * M + lb.getD k 0)) := fun i hi => by
    rw [st_iff, List.length_take, Nat.min_eq_left (by omega)]
    constructor
    · rintro ⟨h1, h2, h3⟩
      exact ⟨h1, h2, fun k hk => by have := h3 k hk; rw [getD_take hk, getD_take hk] at this; exact this⟩
    · rintro ⟨h1, h2, h3⟩
      exact ⟨h1, h2, fun k hk => by rw [getD_take hk, getD_take hk]; exact h3 k hk⟩
  constructor
  · intro h
    have h' := fun i hi => (hst i hi).1 (h i (List.mem_range.2 hi))
    refine ⟨fun p hp => ?_, fun p q hp hq => ?_⟩
    · obtain ⟨i, hi, rfl⟩ := (mem_zip hl).1 hp
      exact ⟨ha.get hi, hb.get (by omega), (h' i hi).1⟩
    · obtain ⟨i, hi, rfl⟩ := (mem_zip hl).1 hp
      obtain ⟨k, hk, rfl⟩ := (mem_zip hl).1 hq
      show (la.getD i 0 = la.getD k 0 ↔ lb.getD i 0 = lb.getD k 0) ∧ bitAt ra (la.getD i 0 * N + la.getD k 0) = bitAt rb (lb.getD i 0 * M + lb.getD k 0)
      rcases Nat.lt_trichotomy i k with e | e | e
      · obtain ⟨a, b, _⟩ := (h' k hk).2.2 i e
        exact ⟨a, b⟩
      · subst e; exact ⟨⟨fun _ => rfl, fun _ => rfl⟩, (h' i hi).2.1⟩
      · obtain ⟨a, _, c⟩ := (h' i hi).2.2 k e
        exact ⟨⟨fun e => (a.1 e.symm).symm, fun e => (a.2 e.symm).symm⟩, c⟩
  · intro h i hi
    have hi := List.mem_range.1 hi
    have hm : ∀ j, j < la.length → (la.getD j 0, lb.getD j 0) ∈ la.zip lb := fun j hj => (mem_zip hl).2 ⟨j, hj, rfl⟩
    refine (hst i hi).2 ⟨(h.1 _ (hm i hi)).2.2, (h.2 _ _ (hm i hi) (hm i hi)).2, fun k hk => ?_⟩
    exact ⟨(h.2 _ _ (hm k (by omega)) (hm i hi)).1, (h.2 _ _ (hm k (by omega)) (hm i hi)).2, (h.2 _ _ (hm i hi) (hm k (by omega))).2⟩
end
end Go.Proofs.YtpcnoiigbmiejaaDoor.gob

/- Games of the program: with, goesOn, replyTo, secondWins, SecondWins, SameRank. -/
namespace Go.Proofs.YtpcnoiigbmiejaaDoor.gow
set_option linter.unusedVariables false
set_option linter.unusedSimpArgs false
open Go.ChangeShapes Go.WideShapes Go.ChangeAt Go.RowKit
open Go.Proofs.YtpcnoiigbmiejaaDoor.lib Go.Proofs.YtpcnoiigbmiejaaDoor.st Go.Proofs.YtpcnoiigbmiejaaDoor.base Go.Proofs.YtpcnoiigbmiejaaDoor.flow Go.Proofs.YtpcnoiigbmiejaaDoor.chain Go.Proofs.YtpcnoiigbmiejaaDoor.fits Go.Proofs.YtpcnoiigbmiejaaDoor.still Go.Proofs.YtpcnoiigbmiejaaDoor.gob

theorem room_own {T : TypeId} {w : World} {B : Nat} {v : Value} {l : List Int} (h : OwnI T w B v l) : Room v := by
  rcases h.2 with ⟨rfl, hn⟩ | ⟨g, cap, cur, rfl, _, _, hc, hm, _⟩
  · exact ⟨Nat.le_refl _, by decide⟩
  · exact ⟨hc, Nat.le_trans hm (by unfold maxLen; decide)⟩
theorem empty_own (w : World) : OwnI 3 (w.alloc (.cells #[] 3)) w.heap.size (.slice (some ⟨w.heap.size, 0, none⟩) 0 0) [] := ⟨rfl, .inr ⟨w.heap.size, 0, #[], rfl, Nat.le_refl _, heap_alloc_new w _, Nat.le_refl _, Nat.zero_le _, rfl, rfl⟩⟩
/-- a structure of the games -/
def Sc (N : Nat) (s r : ByteArray) : Prop := N ≤ 8 ∧ s.size = N ∧ r.size = N * N
/-- a list of the games -/
def Ls (w : World) (v : Value) (l : List Nat) (N : Nat) : Prop := Reads w v (ints l) ∧ Room v ∧ (∀ z, z ∈ l → z < N)
theorem Ls.below {w w' : World} {v : Value} {l : List Nat} {N : Nat} (h : Ls w v l N) (hb : Below w.heap.size w w') : Ls w' v l N := ⟨h.1.below hb (Nat.le_refl _), h.2⟩
theorem ints_snoc (l : List Nat) (x : Nat) : ints l ++ [(x : Int)] = ints (l ++ [x]) := by simp [ints]
theorem Ls.snoc {w : World} {B : Nat} {v : Value} {l : List Nat} {N x : Nat} (h : OwnI 3 w B v (ints l ++ [(x : Int)])) (hl : ∀ z, z ∈ l → z < N) (hx : x < N) : Ls w v (l ++ [x]) N := by
  rw [ints_snoc] at h
  exact ⟨h.reads, room_own h, fun z hz => by
    rcases List.mem_append.1 hz with hz | hz
    · exact hl z hz
    · rw [List.mem_singleton.1 hz]; exact hx⟩
end Go.Proofs.YtpcnoiigbmiejaaDoor.gow

/- Games of the program: secondWins, isGame, SecondWins, SameRank. -/
namespace Go.Proofs.YtpcnoiigbmiejaaDoor.gox
set_option linter.unusedVariables false
set_option linter.unusedSimpArgs false
open Go.ChangeShapes Go.WideShapes Go.ChangeAt Go.RowKit
open Go.Proofs.YtpcnoiigbmiejaaDoor.lib Go.Proofs.YtpcnoiigbmiejaaDoor.st Go.Proofs.YtpcnoiigbmiejaaDoor.base Go.Proofs.YtpcnoiigbmiejaaDoor.flow Go.Proofs.YtpcnoiigbmiejaaDoor.chain Go.Proofs.YtpcnoiigbmiejaaDoor.fits Go.Proofs.YtpcnoiigbmiejaaDoor.still Go.Proofs.YtpcnoiigbmiejaaDoor.gob Go.Proofs.YtpcnoiigbmiejaaDoor.gow Go.Proofs.YtpcnoiigbmiejaaDoor.pairL Go.Proofs.YtpcnoiigbmiejaaDoor.ispart

end Go.Proofs.YtpcnoiigbmiejaaDoor.gox
