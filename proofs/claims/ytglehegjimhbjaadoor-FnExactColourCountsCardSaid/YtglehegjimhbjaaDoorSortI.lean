/- slices.Sort and slices.Max at a list of numbers of the call's own. -/
import Derived.Test.YtglehegjimhbjaaDoorSortF
import Derived.Test.YtglehegjimhbjaaDoorCol
import Derived.Shelf.Sort.Plain
import Derived.Shelf.Slices.In.SortNone
namespace Go.Proofs.YtglehegjimhbjaaDoor.cmp
set_option linter.unusedVariables false
set_option linter.unusedSimpArgs false
open Go.ChangeShapes Go.WideShapes Go.ChangeAt Go.RowKit Go.Sort
open Go.Proofs.YtglehegjimhbjaaDoor.lib Go.Proofs.YtglehegjimhbjaaDoor.sll Go.Proofs.YtglehegjimhbjaaDoor.colp Go.Proofs.YtglehegjimhbjaaDoor.col

theorem grown_sortI {w : World} {g m : Nat} {d : Array Int} {os : Array Obj} : w.grownBy (grow (putRow (Value.int .i64) (Sort.ahead w m) g 0 d) os) (some g) := by
  refine ⟨rfl, rfl, rfl, ?_, fun k hk hne => ?_⟩
  · rw [size_grow, size_putRow]; exact Nat.le_add_right _ _
  · have hne' : g ≠ k := fun e => hne (by rw [e])
    rw [heap_grow_old _ _ (by rw [size_putRow]; exact hk)]
    show ((Sort.ahead w m).heap.modify g _)[k]? = _
    rw [Array.getElem?_modify, if_neg hne']
    rfl
theorem sortI_any (v : Value) (l : List Int) (w : World) (B : Nat) (h : OwnI 3 w B v l) (hl : l.length ≤ 100000) :
    Calls Tryd.prog 32 #[v] w fun e w' => e = .returned (.tuple #[]) ∧ OwnI 3 w' B v (sortI l) ∧ w.grownBy w' v.ownBlock := by
  rcases h.shape with ⟨rfl, rfl⟩ | ⟨g, cap, rfl⟩
  · refine (Any.slices_Sort_int_none Tryd.lays189 none 0 w).mono ?_
    rintro e w' ⟨rfl, rfl⟩
    exact ⟨rfl, by rw [sortI, List.mergeSort_nil]; exact OwnI.nil _ _ _, World.grownBy.refl _ _⟩
  · have ho : w.ownsRow B 3 1 (.slice (some ⟨g, 0, none⟩) l.length cap) l.length (l.map (Value.int .i64)) := h
    obtain ⟨g', cap', hv, hb, hlt, -, -, -, hh⟩ := Go.Lib.holds_of_ownsRow (zs := l) ho (by simp)
    simp only [Value.slice.injEq, Option.some.injEq, Addr.mk.injEq] at hv
    obtain ⟨⟨rfl, -⟩, -⟩ := hv
    refine (Any.slices_Sort_int Tryd.lays189 g 0 cap l w hh hlt (by omega)).mono ?_
    rintro e w' ⟨rfl, m, os, rfl⟩
    refine ⟨rfl, ?_, grown_sortI⟩
    have h2 := Go.Lib.ownsRow_putRow (q := m) (ys := l.mergeSort fun x y => decide (x ≤ y)) ho (by rw [List.length_mergeSort]) (Nat.le_refl _)
    rw [List.take_of_length_le (by rw [List.length_mergeSort]; exact Nat.le_refl _)] at h2
    have h3 := Go.Lib.ownsRow_grow h2 0 os
    unfold OwnI
    rw [sortI_len]
    exact h3
theorem foldI : ∀ (l : List Int) (m : Int), m ≤ l.foldl max m ∧ (∀ x, x ∈ l → x ≤ l.foldl max m) ∧ (l.foldl max m = m ∨ l.foldl max m ∈ l)
  | [], m => ⟨Int.le_refl _, fun x hx => absurd hx (by simp), .inl rfl⟩
  | a :: l, m => by
    obtain ⟨h1, h2, h3⟩ := foldI l (max m a)
    rw [List.foldl_cons]
    refine ⟨by omega, fun x hx => ?_, ?_⟩
    · rcases List.mem_cons.1 hx with rfl | hx
      · omega
      · exact h2 x hx
    · rcases h3 with h3 | h3
      · rw [h3]
        by_cases h : m ≤ a
        · exact .inr (by rw [show max m a = a by omega]; exact List.mem_cons_self)
        · exact .inl (by omega)
      · exact .inr (List.mem_cons_of_mem _ h3)
theorem maxOf_both {l : List Int} (h0 : l ≠ []) : (∀ x, x ∈ l → x ≤ Go.Lib.maxOf l) ∧ Go.Lib.maxOf l ∈ l := by
  unfold Go.Lib.maxOf
  obtain ⟨h1, h2, h3⟩ := foldI l (l.headD 0)
  refine ⟨h2, ?_⟩
  rcases h3 with h3 | h3
  · rw [h3]
    cases l with
    | nil => exact absurd rfl h0
    | cons a t => exact List.mem_cons_self
  · exact h3
theorem max_most {l : List Int} (h0 : l ≠ []) (hp : ∀ x, x ∈ l → 0 ≤ x) : Go.Lib.maxOf l = most l - 1 := by
  obtain ⟨x, hx, hm⟩ := most_at h0 hp
  have h1 : ∀ y, y ∈ l → y ≤ Go.Lib.maxOf l := (maxOf_both h0).1
  have h2 : Go.Lib.maxOf l ∈ l := (maxOf_both h0).2
  have h3 := most_ge h2
  have h4 := h1 x hx
  omega
/-- the greatest -/
theorem max_any (v : Value) (l : List Int) (w : World) (h : Reads w v l) (h0 : l ≠ []) (hl : l.length ≤ 100000) (hp : ∀ x, x ∈ l → 0 ≤ x) :
    Calls Tryd.prog 35 #[v] w fun e w' => e = .returned (.int .i64 (most l - 1)) ∧ w = w' := by
  obtain ⟨ao, cap, rfl, hc, -⟩ := h
  rcases hc with hc | ⟨b, off, rfl, hc⟩
  · exact absurd hc h0
  refine (Any.slices_Max_int Tryd.lays113 b off l.length cap l w (List.length_pos_iff.2 h0) (Nat.le_refl _) (by omega) hc).mono ?_
  rintro e w' ⟨rfl, rfl⟩
  rw [List.take_length, max_most h0 hp]
  exact ⟨rfl, rfl⟩
end Go.Proofs.YtglehegjimhbjaaDoor.cmp
