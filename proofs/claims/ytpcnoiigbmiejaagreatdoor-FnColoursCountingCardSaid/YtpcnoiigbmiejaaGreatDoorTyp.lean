/- Descriptions and their numbers in plain words: equal numbers mean that the second player wins. -/
import Derived.Test.YtpcnoiigbmiejaaGreatDoorGame
import Derived.Test.YtpcnoiigbmiejaaGreatDoorPkG
namespace Go.Proofs.YtpcnoiigbmiejaaGreatDoor.game
set_option linter.unusedVariables false
set_option linter.unusedSimpArgs false
open Go.Proofs.YtpcnoiigbmiejaaGreatDoor.ins

/-- decimal digits -/
def dec (n : Nat) : List UInt8 := if h : n < 10 then [UInt8.ofNat (48 + n)] else dec (n / 10) ++ [UInt8.ofNat (48 + n % 10)]
  termination_by n
  decreasing_by omega
/-- numbers behind commas -/
def commas (l : List Nat) : List UInt8 := l.flatMap fun n => 44 :: dec n
/-- the bits of elements, as the reference lists them -/
def bit (b : Bool) : UInt8 := if b then 49 else 48
def row (A : Gr) (xs : List Nat) (i : Nat) : List UInt8 :=
  bit (A.S (xs.getD i 0)) :: (List.range (i + 1)).flatMap fun k => [bit (xs.getD i 0 == xs.getD k 0), bit (A.R (xs.getD i 0) (xs.getD k 0)), bit (A.R (xs.getD k 0) (xs.getD i 0))]
def atoms (A : Gr) (xs : List Nat) : List UInt8 := (List.range xs.length).flatMap (row A xs)
theorem flat_len {α : Type} (f : Nat → List α) (c : Nat → Nat) (h : ∀ i, (f i).length = c i) : ∀ n, ((List.range n).flatMap f).length = ((List.range n).map c).sum
  | 0 => rfl
  | n + 1 => by
    rw [List.range_succ, List.flatMap_append, List.length_append, flat_len f c h n, List.map_append, List.sum_append]
    simp [h n]
theorem sum_const (c : Nat) : ∀ n, ((List.range n).map fun _ => c).sum = c * n
  | 0 => rfl
  | n + 1 => by rw [List.range_succ, List.map_append, List.sum_append, sum_const c n, Nat.mul_succ]; simp
theorem row_len (A : Gr) (xs : List Nat) (i : Nat) : (row A xs i).length = 1 + 3 * (i + 1) := by
  unfold row
  rw [List.length_cons, flat_len _ (fun _ => 3) (fun _ => rfl), sum_const]
  omega
/-- elements of a structure -/
def Els (A : Gr) (xs : List Nat) : Prop := ∀ x, x ∈ xs → x < A.n
theorem Els.get {A : Gr} {xs : List Nat} (h : Els A xs) {i : Nat} (hi : i < xs.length) : xs.getD i 0 < A.n := by
  rw [List.getD_eq_getElem?_getD, List.getElem?_eq_getElem hi]
  exact h _ (List.getElem_mem _)
theorem Els.snoc {A : Gr} {xs : List Nat} (h : Els A xs) {x : Nat} (hx : x < A.n) : Els A (xs ++ [x]) := fun y hy => by
  rcases List.mem_append.1 hy with h' | h'
  · exact h y h'
  · rw [List.mem_singleton.1 h']; exact hx
/-- the text of a description -/
def txt (r : Nat) (at_ : List UInt8) (l : List Nat) : List UInt8 := dec r ++ 58 :: (at_ ++ commas l)
/-- sorted numbers, each once -/
def nums (l : List Int) : List Nat := (l.foldl ins []).map Int.toNat
theorem mem_ins {l : List Int} {n x : Int} : x ∈ ins l n ↔ x = n ∨ x ∈ l := by
  induction l with
  | nil => simp [ins]
  | cons a l ih =>
    unfold ins
    split
    · rename_i h; subst h; simp
    · split
      · simp
      · rw [List.mem_cons, ih, List.mem_cons]
        constructor
        · rintro (h | h | h)
          · exact .inr (.inl h)
          · exact .inl h
          · exact .inr (.inr h)
        · rintro (h | h | h)
          · exact .inr (.inl h)
          · exact .inl h
          · exact .inr (.inr h)
theorem ins_sorted {l : List Int} {n : Int} (h : l.Pairwise (· < ·)) : (ins l n).Pairwise (· < ·) := by
  induction l with
  | nil => simp [ins]
  | cons a l ih =>
    obtain ⟨h1, h2⟩ := List.pairwise_cons.1 h
    unfold ins
    split
    · exact h
    · split
      · rename_i hn
        refine List.pairwise_cons.2 ⟨fun b hb => ?_, h⟩
        rcases List.mem_cons.1 hb with rfl | hb
        · exact hn
        · have := h1 b hb; omega
      · refine List.pairwise_cons.2 ⟨fun b hb => ?_, ih h2⟩
        rcases mem_ins.1 hb with rfl | hb
        · omega
        · exact h1 b hb
theorem sorted_ext : ∀ {l m : List Int}, l.Pairwise (· < ·) → m.Pairwise (· < ·) → (∀ x, x ∈ l ↔ x ∈ m) → l = m
  | [], [], _, _, _ => rfl
  | [], b :: m, _, _, h => absurd ((h b).2 List.mem_cons_self) (by simp)
  | a :: l, [], _, _, h => absurd ((h a).1 List.mem_cons_self) (by simp)
  | a :: l, b :: m, h1, h2, h => by
    obtain ⟨p1, p2⟩ := List.pairwise_cons.1 h1
    obtain ⟨q1, q2⟩ := List.pairwise_cons.1 h2
    have hab : a = b := by
      rcases List.mem_cons.1 ((h a).1 List.mem_cons_self) with e | e
      · exact e
      · rcases List.mem_cons.1 ((h b).2 List.mem_cons_self) with e2 | e2
        · exact e2.symm
        · have := q1 a e; have := p1 b e2; omega
    subst hab
    have : l = m := sorted_ext p2 q2 fun x => by
      constructor
      · intro hx
        rcases List.mem_cons.1 ((h x).1 (List.mem_cons_of_mem _ hx)) with e | e
        · have := p1 x hx; omega
        · exact e
      · intro hx
        rcases List.mem_cons.1 ((h x).2 (List.mem_cons_of_mem _ hx)) with e | e
        · have := q1 x hx; omega
        · exact e
    rw [this]
/-- the numbers of what can come next -/
def nexts (n : Nat) (f : Nat → Nat) : List Int := (List.range n).map fun x => (f x : Int)
/-- n is the number, in the table, of what can happen in so many rounds -/
def Ty (T : List (List UInt8)) (A : Gr) : Nat → List Nat → Nat → Prop
  | 0, xs, n => T[n]? = some (txt 0 (atoms A xs) [])
  | r + 1, xs, n => ∃ f : Nat → Nat, (∀ x, x < A.n → Ty T A r (xs ++ [x]) (f x)) ∧ T[n]? = some (txt (r + 1) (atoms A xs) (nums (nexts A.n f)))
theorem Ty.mono {T T' : List (List UInt8)} {A : Gr} (h : T <+: T') : ∀ {r : Nat} {xs : List Nat} {n : Nat}, Ty T A r xs n → Ty T' A r xs n
  | 0, xs, n, ht => by
    obtain ⟨t, rfl⟩ := h
    have ht : T[n]? = _ := ht
    show (T ++ t)[n]? = _
    rw [List.getElem?_append_left (List.getElem?_eq_some_iff.1 ht).1]; exact ht
  | r + 1, xs, n, ht => by
    obtain ⟨f, hf, ht⟩ := ht
    refine ⟨f, fun x hx => (hf x hx).mono h, ?_⟩
    obtain ⟨t, rfl⟩ := h
    rw [List.getElem?_append_left (List.getElem?_eq_some_iff.1 ht).1]; exact ht
end Go.Proofs.YtpcnoiigbmiejaaGreatDoor.game
