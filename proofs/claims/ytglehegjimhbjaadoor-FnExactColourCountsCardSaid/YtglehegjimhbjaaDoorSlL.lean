/- Slices of slices of integers: what they read as, and their growth. -/
import Derived.Test.YtglehegjimhbjaaDoorRows
import Derived.Test.YtglehegjimhbjaaDoorLib
namespace Go.Proofs.YtglehegjimhbjaaDoor.sll
set_option linter.unusedVariables false
set_option linter.unusedSimpArgs false
open Go.ChangeShapes Go.WideShapes Go.ChangeAt Go.RowKit
open Go.Proofs.YtglehegjimhbjaaDoor.lib

theorem infoInt : (Tryd.prog.info? 3).map (fun i => (i.zero, i.size, i.bytes)) = some (some (.int .i64 0), 1, 8) := by kernel_rfl
theorem infoSl : (Tryd.prog.info? 25).map (fun i => (i.zero, i.size, i.bytes)) = some (some (.slice none 0 0), 1, 24) := by kernel_rfl

/-- v is a slice of slices that read as the lists of L -/
def RowsR (w : World) (v : Value) (L : List (List Int)) : Prop :=
  ∃ ao cap, v = .slice ao L.length cap ∧ (L = [] ∨ ∃ b off, ao = some ⟨b, off, none⟩ ∧ ∀ i, i < L.length → ∃ u, w.cell? ⟨b, off + i, none⟩ = some u ∧ Reads w u (L.getD i []))
theorem RowsR.len {w : World} {v : Value} {L : List (List Int)} (h : RowsR w v L) : ∃ ao cap, v = .slice ao L.length cap := by
  obtain ⟨ao, cap, hv, _⟩ := h; exact ⟨ao, cap, hv⟩
theorem RowsR.below {w w' : World} {C : Nat} {v : Value} {L : List (List Int)} (h : RowsR w v L) (hb : Below C w w') (hC : w.heap.size ≤ C) : RowsR w' v L := by
  obtain ⟨ao, cap, hv, h⟩ := h
  refine ⟨ao, cap, hv, ?_⟩
  rcases h with h | ⟨b, off, ha, hc⟩
  · exact .inl h
  · refine .inr ⟨b, off, ha, fun i hi => ?_⟩
    obtain ⟨u, hx, hr⟩ := hc i hi
    have hlt := World.block_lt_of_cell? w _ hx
    refine ⟨u, ?_, hr.below hb hC⟩
    rw [hb.cell (p := ⟨b, off + i, none⟩) (by show b < C; have : b < w.heap.size := hlt; omega)]
    exact hx
/-- the spot of the rows -/
theorem RowsR.spot {w : World} {ao : Option Addr} {n cap : Nat} {L : List (List Int)} (h : RowsR w (.slice ao n cap) L) (hn : n = L.length) (h1 : 1 ≤ n) :
    ∃ b off, ao = some ⟨b, off, none⟩ ∧ ∀ i, i < n → ∃ u, w.cell? ⟨b, off + i, none⟩ = some u ∧ Reads w u (L.getD i []) := by
  obtain ⟨ao', c', hv', hc'⟩ := h
  simp only [Value.slice.injEq] at hv'
  rcases hc' with h | ⟨b, off, he, hc⟩
  · rw [h] at hn; simp at hn; omega
  · exact ⟨b, off, hv'.1.trans he, fun i hi => hc i (by omega)⟩

theorem reads_kept {w w' : World} {row : Option Nat} {u : Value} {l : List Int} (h : Reads w u l) (hg : w.grownBy w' row) (hne : ∀ k, row = some k → u.ownBlock ≠ some k) : Reads w' u l := by
  obtain ⟨ao, cap, hv, h, hnn⟩ := h
  refine ⟨ao, cap, hv, ?_, hnn⟩
  rcases h with h | ⟨b, off, ha, hc⟩
  · exact .inl h
  · refine .inr ⟨b, off, ha, fun i hi => ?_⟩
    have hx := hc i hi
    have hlt := World.block_lt_of_cell? w _ hx
    have hb : w'.heap[b]? = w.heap[b]? := hg.block b hlt (fun e => hne b e.symm (by rw [hv, ha]; rfl))
    rw [World.cell?_of_block (w := w) hb]; exact hx
theorem reads_block {w : World} {u : Value} {l : List Int} (h : Reads w u l) {k : Nat} (hk : u.ownBlock = some k) (hl : l ≠ []) : k < w.heap.size := by
  obtain ⟨ao, cap, hv, h, hnn⟩ := h
  rcases h with h | ⟨b, off, ha, hc⟩
  · exact absurd h hl
  · have h0 : 0 < l.length := by cases l with
      | nil => exact absurd rfl hl
      | cons a t => simp
    have hlt := World.block_lt_of_cell? w _ (hc 0 h0)
    rw [hv, ha] at hk
    simp [Value.ownBlock] at hk
    have : b < w.heap.size := hlt
    omega

/-- v owns, in blocks from B on, slices that read as the lists of L; none of them is empty, and none lies in v's own row -/
def OwnL (w : World) (B : Nat) (v : Value) (L : List (List Int)) : Prop :=
  ∃ us : List Value, us.length = L.length ∧ w.ownsRow B 25 1 v us.length us ∧ ∀ i, i < L.length → L.getD i [] ≠ [] ∧ Reads w (us.getD i undef) (L.getD i []) ∧ ∀ k, v.ownBlock = some k → (us.getD i undef).ownBlock ≠ some k
theorem OwnL.nil (w : World) (B : Nat) : OwnL w B (.slice none 0 0) [] := ⟨[], rfl, World.ownsRow_nil _ _ _ _, fun i h => absurd h (by simp)⟩
theorem OwnL.empty (w : World) (B H : Nat) (hH : w.heap.size = H) (hB : B ≤ H) : OwnL (w.alloc (.cells #[] 25)) B (.slice (some ⟨H, 0, none⟩) 0 0) [] := by
  subst hH
  exact ⟨[], rfl, World.ownsRow_made w #[] 0 hB (Nat.zero_le _) rfl, fun i h => absurd h (by simp)⟩
theorem OwnL.len {w : World} {B : Nat} {v : Value} {L : List (List Int)} (h : OwnL w B v L) : (v = .slice none 0 0 ∧ L = []) ∨ ∃ g cap, v = .slice (some ⟨g, 0, none⟩) L.length cap ∧ B ≤ g ∧ g < w.heap.size := by
  obtain ⟨us, hl, ho, _⟩ := h
  rcases ho.2 with ⟨h', hn⟩ | ⟨g, cap, cur, hv, _⟩
  · exact .inl ⟨h', List.length_eq_zero_iff.1 (by omega)⟩
  · have hlt := ho.lt g (by rw [hv]; rfl)
    exact .inr ⟨g, cap, by rw [hv, hl], hlt⟩
theorem OwnL.mono {w : World} {B B' : Nat} {v : Value} {L : List (List Int)} (h : OwnL w B v L) (hB : B' ≤ B) : OwnL w B' v L := by
  obtain ⟨us, hl, ho, hr⟩ := h
  refine ⟨us, hl, ⟨ho.1, ?_⟩, hr⟩
  rcases ho.2 with hn | ⟨g, cap, cur, hv, hb, r⟩
  · exact .inl hn
  · exact .inr ⟨g, cap, cur, hv, by omega, r⟩
theorem OwnL.below {w w' : World} {B C : Nat} {v : Value} {L : List (List Int)} (h : OwnL w B v L) (hb : Below C w w') (hC : w.heap.size ≤ C) : OwnL w' B v L := by
  obtain ⟨us, hl, ho, hr⟩ := h
  refine ⟨us, hl, ⟨ho.1, ?_⟩, fun i hi => ⟨(hr i hi).1, (hr i hi).2.1.below hb hC, (hr i hi).2.2⟩⟩
  rcases ho.2 with hn | ⟨g, cap, cur, hv, hg, hh, r⟩
  · exact .inl hn
  · have := (Array.getElem?_eq_some_iff.1 hh).1
    exact .inr ⟨g, cap, cur, hv, hg, by rw [hb.block g (by omega)]; exact hh, r⟩
theorem OwnL.rows {w : World} {B : Nat} {v : Value} {L : List (List Int)} (h : OwnL w B v L) : RowsR w v L := by
  obtain ⟨us, hl, ho, hr⟩ := h
  have ho' := ho
  rcases ho'.2 with ⟨h', hn⟩ | ⟨g, cap, cur, hv, _⟩
  · have : L = [] := List.length_eq_zero_iff.1 (by omega)
    subst this
    exact ⟨none, 0, h', .inl rfl⟩
  · subst hv
    refine ⟨some ⟨g, 0, none⟩, cap, by rw [hl], .inr ⟨g, 0, rfl, fun i hi => ⟨us.getD i undef, ?_, (hr i hi).2.1⟩⟩⟩
    rw [Nat.zero_add, ho.cellAt i (by omega), List.getD_eq_getElem?_getD, List.getElem?_eq_getElem (by omega)]; rfl
/-- what the walk is told ahead of an append: the values, and how they lie -/
theorem OwnL.row {w : World} {B : Nat} {v : Value} {L : List (List Int)} (h : OwnL w B v L) : ∃ us : List Value, us.length = L.length ∧ w.ownsRow B 25 1 v us.length us ∧ ∀ i, i < L.length → L.getD i [] ≠ [] ∧ Reads w (us.getD i undef) (L.getD i []) ∧ ∀ k, v.ownBlock = some k → (us.getD i undef).ownBlock ≠ some k := h
/-- one more list behind -/
theorem own_push {w w' : World} {B g cap : Nat} {v u : Value} {us : List Value} {L : List (List Int)} {l : List Int} (hl : us.length = L.length)
    (hr : ∀ i, i < L.length → L.getD i [] ≠ [] ∧ Reads w (us.getD i undef) (L.getD i []) ∧ ∀ k, v.ownBlock = some k → (us.getD i undef).ownBlock ≠ some k)
    (hu : Reads w u l) (hne : l ≠ []) (hnb : ∀ k, v.ownBlock = some k → u.ownBlock ≠ some k) (ho : w'.ownsRow B 25 1 (.slice (some ⟨g, 0, none⟩) (us.length + 1) cap) (us.length + 1) (us ++ [u])) (hg : Grew w w' v (.slice (some ⟨g, 0, none⟩) (us.length + 1) cap)) :
    OwnL w' B (.slice (some ⟨g, 0, none⟩) (us.length + 1) cap) (L ++ [l]) := by
  refine ⟨us ++ [u], by simp [hl], by rw [show (us ++ [u]).length = us.length + 1 from by simp]; exact ho, fun i hi => ?_⟩
  have hx : ∀ (x : Value) (m : List Int), m ≠ [] → Reads w x m → (∀ k, v.ownBlock = some k → x.ownBlock ≠ some k) → Reads w' x m ∧ ∀ k, (Value.slice (some ⟨g, 0, none⟩) (us.length + 1) cap).ownBlock = some k → x.ownBlock ≠ some k := by
    intro x m hm hxr hxn
    refine ⟨reads_kept hxr hg.grown hxn, fun k hk hxk => ?_⟩
    rcases hg.blk k hk with hb | hb
    · exact hxn k hb hxk
    · have := reads_block hxr hxk hm; omega
  by_cases h : i < L.length
  · have e1 : (L ++ [l]).getD i [] = L.getD i [] := by rw [List.getD_eq_getElem?_getD, List.getElem?_append_left h, ← List.getD_eq_getElem?_getD]
    have e2 : (us ++ [u]).getD i undef = us.getD i undef := by rw [List.getD_eq_getElem?_getD, List.getElem?_append_left (by omega), ← List.getD_eq_getElem?_getD]
    rw [e1, e2]
    exact ⟨(hr i h).1, hx _ _ (hr i h).1 (hr i h).2.1 (hr i h).2.2⟩
  · have hi' : i = L.length := by simp at hi; omega
    subst hi'
    have e1 : (L ++ [l]).getD L.length [] = l := by rw [List.getD_eq_getElem?_getD, List.getElem?_append_right (Nat.le_refl _), Nat.sub_self]; rfl
    have e2 : (us ++ [u]).getD L.length undef = u := by rw [← hl, List.getD_eq_getElem?_getD, List.getElem?_append_right (Nat.le_refl _), Nat.sub_self]; rfl
    rw [e1, e2]
    exact ⟨hne, hx _ _ hne hu hnb⟩
theorem own_push' {w w' : World} {B g cap n : Nat} {v u : Value} {us : List Value} {L : List (List Int)} {l : List Int} (hn : us.length = n) (hl : us.length = L.length)
    (hr : ∀ i, i < L.length → L.getD i [] ≠ [] ∧ Reads w (us.getD i undef) (L.getD i []) ∧ ∀ k, v.ownBlock = some k → (us.getD i undef).ownBlock ≠ some k)
    (hu : Reads w u l) (hne : l ≠ []) (hnb : ∀ k, v.ownBlock = some k → u.ownBlock ≠ some k) (ho : w'.ownsRow B 25 1 (.slice (some ⟨g, 0, none⟩) (n + 1) cap) (n + 1) (us ++ [u])) (hg : Grew w w' v (.slice (some ⟨g, 0, none⟩) (n + 1) cap)) :
    OwnL w' B (.slice (some ⟨g, 0, none⟩) (n + 1) cap) (L ++ [l]) := by
  subst hn
  exact own_push hl hr hu hne hnb ho hg
theorem ownI_take {T : TypeId} {w : World} {B g n cap m : Nat} {l : List Int} (h : OwnI T w B (.slice (some ⟨g, 0, none⟩) n cap) l) (hm : m ≤ n) : OwnI T w B (.slice (some ⟨g, 0, none⟩) m cap) (l.take m) := by
  have hn := h.len
  rcases h.2 with ⟨h', _⟩ | ⟨g', cap', cur, hv, hb, hh, hc1, hc2, hc3, hc4⟩
  · simp at h'
  · simp only [Value.slice.injEq, Option.some.injEq, Addr.mk.injEq] at hv
    obtain ⟨⟨rfl, -, -⟩, -, rfl⟩ := hv
    refine ⟨by simp [ivs], .inr ⟨g, cap, cur, by rw [List.length_take, Nat.min_eq_left (by omega)], hb, hh, by rw [List.length_take]; omega, hc2, hc3, ?_⟩⟩
    rw [Nat.mul_one] at hc4 ⊢
    rw [List.length_take, Nat.min_eq_left (by omega)]
    have e : (ivs l).take m = ivs (l.take m) := by simp [ivs, List.map_take]
    rw [← e, ← hc4, List.take_take, Nat.min_eq_left (by omega)]
end Go.Proofs.YtglehegjimhbjaaDoor.sll
