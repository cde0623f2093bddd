/- Four lists of the call's own whose slices lie in one array. -/
import Derived.Test.YtglehegjimhbjaaDoorDesc
namespace Go.Proofs.YtglehegjimhbjaaDoor.ways
set_option linter.unusedVariables false
set_option linter.unusedSimpArgs false
open Go.ChangeShapes Go.WideShapes Go.ChangeAt Go.RowKit
open Go.Proofs.YtglehegjimhbjaaDoor.lib Go.Proofs.YtglehegjimhbjaaDoor.st Go.Proofs.YtglehegjimhbjaaDoor.sll

theorem grown_setCell' (w : World) (R o : Nat) (v : Value) : w.grownBy (w.setCell ⟨R, o, none⟩ v) (some R) :=
  ⟨rfl, rfl, rfl, by simp, fun k _ hk => heap_setCell_other w ⟨R, o, none⟩ k v (fun e => hk (by simp [e]))⟩
/-- the array at HW holds the four slices V, which own the lists F -/
structure Ways (w : World) (HW HB : Nat) (V : Nat → Value) (F : Nat → List Int) : Prop where
  hw : HW < HB
  cell : ∀ k, k < 4 → w.cell? ⟨HW, k, none⟩ = some (V k)
  free : ∀ k, w.frozen? ⟨HW, k, none⟩ = false
  own : ∀ k, k < 4 → OwnI 3 w HB (V k) (F k)
  apart : ∀ i j, i < 4 → j < 4 → i ≠ j → Apart (V i) (V j)
  nil : ∀ k, k < 4 → F k = [] → V k = .slice none 0 0
theorem Ways.lt {w : World} {HW HB : Nat} {V : Nat → Value} {F : Nat → List Int} (h : Ways w HW HB V F) : HW < w.heap.size := World.block_lt_of_cell? w _ (h.cell 0 (by omega))
theorem Ways.down {w w' : World} {HW HB : Nat} {V : Nat → Value} {F : Nat → List Int} (h : Ways w HW HB V F) (hb : Below w.heap.size w w') : Ways w' HW HB V F :=
  ⟨h.hw, fun k hk => by rw [hb.cell (p := ⟨HW, k, none⟩) h.lt]; exact h.cell k hk, fun k => by
    rw [World.frozen?_of_block (w := w) (hb.block HW h.lt)]; exact h.free k, fun k hk => (h.own k hk).below hb (Nat.le_refl _), h.apart, h.nil⟩
theorem Ways.congr {w : World} {HW HB : Nat} {V : Nat → Value} {F G : Nat → List Int} (h : Ways w HW HB V F) (hF : ∀ k, k < 4 → F k = G k) : Ways w HW HB V G :=
  ⟨h.hw, h.cell, h.free, fun k hk => by rw [← hF k hk]; exact h.own k hk, h.apart, fun k hk e => h.nil k hk ((hF k hk).trans e)⟩
/-- one of them has grown -/
theorem Ways.put {w w9 : World} {HW HB K : Nat} {V : Nat → Value} {F : Nat → List Int} {u : Value} {l : List Int} (h : Ways w HW HB V F) (hK : K < 4) (hB : HB ≤ w.heap.size) (hg : Grew w w9 (V K) u) (hu : OwnI 3 w9 HB u l) (hl : l ≠ []) :
    Ways (w9.setCell ⟨HW, K, none⟩ u) HW HB (fun k => if k = K then u else V k) (fun k => if k = K then l else F k) := by
  have hne : ∀ k, k < 4 → some HW ≠ (V k).ownBlock := fun k hk e => by have := (h.own k hk).lt HW e.symm; have := h.hw; omega
  have hneu : some HW ≠ u.ownBlock := fun e => by have := hu.lt HW e.symm; have := h.hw; omega
  have hblk : w9.heap[HW]? = w.heap[HW]? := hg.grown.block HW h.lt (hne K hK)
  have hs : ∀ (v : Value) (m : List Int), some HW ≠ v.ownBlock → OwnI 3 w9 HB v m → OwnI 3 (w9.setCell ⟨HW, K, none⟩ u) HB v m := fun v m hv ho =>
    World.ownsRow.kept ho (grown_setCell' w9 HW K u) (.inr fun e => hv e.symm)
  refine ⟨h.hw, fun k hk => ?_, fun k => ?_, fun k hk => ?_, fun i j hi hj hij => ?_, fun k hk e => ?_⟩
  · by_cases e : k = K
    · subst e
      rw [if_pos rfl]
      have hc := h.cell k hk
      rw [← World.cell?_of_block (w := w) (w' := w9) (a := ⟨HW, k, none⟩) hblk] at hc
      exact World.cell?_setCell_same _ _ _ hc
    · rw [if_neg e, World.cell?_setCell_other w9 ⟨HW, K, none⟩ ⟨HW, k, none⟩ u (fun e2 => e (by injection e2 with _ e3 _; exact e3.symm)), World.cell?_of_block (w := w) (w' := w9) (a := ⟨HW, k, none⟩) hblk]
      exact h.cell k hk
  · rw [World.frozen?_setCell, World.frozen?_of_block (w := w) (w' := w9) (a := ⟨HW, k, none⟩) hblk]; exact h.free k
  · by_cases e : k = K
    · subst e; rw [if_pos rfl, if_pos rfl]; exact hs _ _ hneu hu
    · rw [if_neg e, if_neg e]
      exact hs _ _ (hne k hk) (hg.keep (h.own k hk) (h.apart K k hK hk (fun e2 => e e2.symm))).1
  · have hx : ∀ j, j < 4 → j ≠ K → Apart u (V j) := fun j hj hjK b hb => by
      rcases hg.blk b hb with hb | hb
      · exact h.apart K j hK hj (fun e => hjK e.symm) b hb
      · intro e; have := ((h.own j hj).lt b e).2; omega
    by_cases e1 : i = K
    · subst e1
      rw [if_pos rfl, if_neg (fun e => hij e.symm)]
      exact hx j hj (fun e => hij e.symm)
    · rw [if_neg e1]
      by_cases e2 : j = K
      · subst e2; rw [if_pos rfl]; exact (hx i hi e1).symm
      · rw [if_neg e2]; exact h.apart i j hi hj hij
  · by_cases e2 : k = K
    · rw [if_pos e2] at e; exact absurd e hl
    · rw [if_neg e2] at e ⊢; exact h.nil k hk e
theorem Ways.start (w : World) (HW HB : Nat) (E : TypeId) (h1 : w.heap.size = HW) (h2 : HW < HB) : Ways (w.alloc (.cells #[.slice none 0 0, .slice none 0 0, .slice none 0 0, .slice none 0 0] E)) HW HB (fun _ => .slice none 0 0) (fun _ => []) := by
  subst h1
  refine ⟨h2, fun k hk => ?_, fun k => ?_, fun k _ => OwnI.nil _ _ _, fun _ _ _ _ _ b hb => by simp [Value.ownBlock] at hb, fun _ _ _ => rfl⟩
  · rw [cell_of_row _ _ k _ E (0, 0) (heap_alloc_new w _)]
    have : k = 0 ∨ k = 1 ∨ k = 2 ∨ k = 3 := by omega
    rcases this with rfl | rfl | rfl | rfl <;> rfl
  · exact frozen_of_row _ _ k _ E (heap_alloc_new w _)

/-- append of a list of the call's own -/
theorem wpList_appO {P : Program} (w : World) {ops : Array Oper} {rest : List Oper} {o : Oper} {a : Act} {Q : Exit → Act → World → Prop} (hgd : o.guard = none)
    (s x : Operand) (t : TypeId) (hop : o.op = Op.call { callee := Callee.builtin Builtin.append, args := #[s, x], argTypes := #[t, t] })
    (base B2 : Nat) (e : TypeId) (h1 : P.underlying t = some (.slice e)) (hinfo : (P.info? e).map (fun i => (i.zero, i.size, i.bytes)) = some (some (.int .i64 0), 1, 8))
    (v : Value) (l : List Int) (hs : a.eval s = v) (hown : OwnI e w base v l) (v2 : Value) (m : List Int) (hx : a.eval x = v2) (hown2 : OwnI e w B2 v2 m) (hnil : m = [] → v2 = .slice none 0 0)
    (b1 : l.length + m.length ≤ 4398046511104) (b4 : base ≤ w.heap.size)
    (h : ∀ v' w', OwnI e w' base v' (l ++ m) → Grew w w' v v' → wpList P ops Q rest (a.put o.dst v') w') : wpList P ops Q (o :: rest) a w := by
  by_cases hm : m = []
  · obtain ⟨i, hi, -, -, -⟩ := info_parts hinfo
    refine wpList_append_own_none hgd s x t hop base e i 1 h1 hi v l.length (ivs l) hs hown (by rw [hx, hnil hm]) ?_
    exact h v w (by rw [hm, List.append_nil]; exact hown) ⟨World.grownBy.refl _ _, fun g hg => .inl hg⟩
  · rcases hown2.shape with ⟨-, h0⟩ | ⟨g, cap, rfl⟩
    · exact absurd h0 hm
    · refine wpList_plain hgd fun K hK => ?_
      refine wp_appL w s x t hop base e (.int .i64 0) 8 h1 hinfo rfl (by decide) v l.length (ivs l) hs hown ⟨g, 0, none⟩ m.length cap (ivs m) hx (by simp [ivs]) ?_ ?_ (List.length_pos_iff.2 hm) b1 b4 (fun g' cap' w' ho hg => hK _ _ (h _ w' ?_ hg))
      · intro j u hj
        exact World.ownsRow.cells hown2 (g := g) rfl j u hj
      · intro u hu
        simp only [ivs, List.mem_map] at hu
        obtain ⟨z, -, rfl⟩ := hu; rfl
      · unfold OwnI; rw [List.length_append, ivs_append]; exact ho
end Go.Proofs.YtglehegjimhbjaaDoor.ways
