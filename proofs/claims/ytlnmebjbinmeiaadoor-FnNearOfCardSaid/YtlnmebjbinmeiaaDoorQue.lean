/- A slice of the call's own that may begin within its row: a queue: its head, what is left behind it, append of one. No program in sight. -/
import Derived.WalkKit
import Derived.ArgAppend
import Derived.Test.YtlnmebjbinmeiaaDoorLib
namespace Go.Proofs.YtlnmebjbinmeiaaDoor.que
set_option linter.unusedVariables false
set_option linter.unusedSimpArgs false
open Go.RowKit Go.Proofs.YtlnmebjbinmeiaaDoor.lib

structure Que (T : TypeId) (w : World) (B g off m cap : Nat) (l : List Int) : Prop where
  ge : B ≤ g
  len : m = l.length
  le : m ≤ cap
  max : cap ≤ maxLen
  blk : ∃ cur, w.heap[g]? = some (.cells cur T (0, 0)) ∧ off + cap ≤ cur.size ∧ ∀ i, i < l.length → cur[off + i]? = some (.int .i64 (l.getD i 0))

variable {T : TypeId} {w w' : World} {B g off m cap : Nat} {l : List Int}
theorem Que.lt (h : Que T w B g off m cap l) : g < w.heap.size := by
  obtain ⟨cur, hc, _⟩ := h.blk
  exact (Array.getElem?_eq_some_iff.1 hc).1
theorem Que.same (h : Que T w B g off m cap l) (hb : w'.heap[g]? = w.heap[g]?) : Que T w' B g off m cap l := by
  obtain ⟨cur, hc, r⟩ := h.blk
  exact ⟨h.ge, h.len, h.le, h.max, cur, by rw [hb]; exact hc, r⟩
theorem Que.kept {row : Option Nat} (h : Que T w B g off m cap l) (hg : w.grownBy w' row) (hne : row ≠ some g) : Que T w' B g off m cap l :=
  h.same (hg.block g h.lt (fun e => hne e.symm))
theorem Que.below {C : Nat} (h : Que T w B g off m cap l) (hb : Below C w w') (hC : w.heap.size ≤ C) : Que T w' B g off m cap l :=
  h.same (hb.block g (Nat.lt_of_lt_of_le h.lt hC))
theorem Que.alloc (h : Que T w B g off m cap l) (o : Obj) : Que T (w.alloc o) B g off m cap l := h.kept (World.grownBy_alloc w o none) (by simp)
theorem Que.cell (h : Que T w B g off m cap l) (i : Nat) (hi : i < l.length) : w.cell? ⟨g, off + i, none⟩ = some (.int .i64 (l.getD i 0)) := by
  obtain ⟨cur, hc, _, hcell⟩ := h.blk
  have := hcell i hi
  simp [World.cell?, hc, this]
theorem Que.head {x : Int} {r : List Int} (h : Que T w B g off m cap (x :: r)) : w.cell? ⟨g, off, none⟩ = some (.int .i64 x) := by
  have := h.cell 0 (by simp)
  simpa using this
theorem Que.new (hB : B ≤ w.heap.size) (x : Int) (H : Nat) (hH : w.heap.size = H) : Que T (w.alloc (.cells #[.int .i64 x] T)) B H 0 1 1 [x] := by
  subst hH
  refine ⟨hB, rfl, Nat.le_refl _, by decide, _, heap_alloc_new w _, by simp, fun i hi => ?_⟩
  simp at hi
  subst hi
  rfl
theorem Que.pop {x : Int} {r : List Int} (h : Que T w B g off m cap (x :: r)) : Que T w B g (off + 1) (m - 1) (cap - 1) r := by
  obtain ⟨cur, hc, hs, hcell⟩ := h.blk
  have h1 := h.len
  have h2 := h.le
  have h3 := h.max
  simp only [List.length_cons] at h1
  refine ⟨h.ge, by omega, by omega, by omega, cur, hc, by omega, fun i hi => ?_⟩
  have := hcell (i + 1) (by simp; omega)
  rw [show off + (i + 1) = off + 1 + i from by omega] at this
  simpa using this
theorem Que.pop1 {x : Int} {r : List Int} (h : Que T w B g off m 1 (x :: r)) : Que T w B g off 0 0 r := by
  obtain ⟨cur, hc, hs, hcell⟩ := h.blk
  have h1 := h.len
  have h2 := h.le
  simp only [List.length_cons] at h1
  have hr : r = [] := List.length_eq_zero_iff.1 (by omega)
  subst hr
  exact ⟨h.ge, rfl, Nat.le_refl _, by decide, cur, hc, by omega, fun i hi => (by simp at hi)⟩
theorem Que.of_own {n : Nat} (h : OwnI T w B (.slice (some ⟨g, 0, none⟩) n cap) l) : Que T w B g 0 n cap l := by
  have hn := h.len
  rcases h.2 with ⟨h', _⟩ | ⟨g', cap', cur, h', hb, hh, hnc, hcm, hcs, ht⟩
  · simp at h'
  · simp only [Value.slice.injEq, Option.some.injEq, Addr.mk.injEq] at h'
    obtain ⟨⟨rfl, _⟩, _, rfl⟩ := h'
    refine ⟨hb, hn, by omega, hcm, cur, hh, by omega, fun i hi => ?_⟩
    have hx := ivs_get l i hi
    rw [Nat.zero_add]
    have e : (cur.toList.take (l.length * 1))[i]? = cur.toList[i]? := by rw [List.getElem?_take, if_pos (by omega)]
    rw [ht] at e
    rw [← Array.getElem?_toList, ← e]; exact hx

/-- append of one value: what the walk meets (the value laid in a block of its own first) -/
theorem wp_appQ {P : Program} (w : World) {o : Oper} {a : Act} {K : Act → World → Prop} {Q : Exit → Act → World → Prop}
    (s x : Operand) (t : TypeId) (hop : o.op = Op.call { callee := Callee.builtin Builtin.append, args := #[s, x], argTypes := #[t, t] })
    (B : Nat) (e : TypeId) (h1 : P.underlying t = some (.slice e)) (hinfo : (P.info? e).map (fun i => (i.zero, i.size, i.bytes)) = some (some (.int .i64 0), 1, 8))
    (g off m cap : Nat) (l : List Int) (hs : a.eval s = .slice (some ⟨g, off, none⟩) m cap) (hq : Que e w B g off m cap l)
    (y : Int) (H : Nat) (hH : w.heap.size = H) (hx : a.eval x = .slice (some ⟨H, 0, none⟩) 1 1) (b1 : m + 1 ≤ 4398046511104) (b4 : B ≤ H)
    (h : ∀ g' off' cap' w', Que e w' B g' off' (m + 1) cap' (l ++ [y]) → w.grownBy w' (some g) → (g' = g ∨ H ≤ g') → K (a.put o.dst (.slice (some ⟨g', off', none⟩) (m + 1) cap')) w') :
    o.wp P a (w.alloc (.cells #[.int .i64 y] e)) K Q := by
  subst hH
  obtain ⟨i, hi, hz0, hz1, hz2⟩ := info_parts hinfo
  have hqa : Que e (w.alloc (.cells #[.int .i64 y] e)) B g off m cap l := hq.alloc _
  have hnews : ∀ j u, [Value.int .i64 y][j]? = some u → (w.alloc (.cells #[.int .i64 y] e)).cell? ((⟨w.heap.size, 0, none⟩ : Addr).add j) = some u := by
    intro j u hj
    match j, hj with
    | 0, hj => simp at hj; subst hj; simp [Addr.add]
  obtain ⟨cur, hc, hsz, hcell⟩ := hqa.blk
  by_cases hroom : m + 1 ≤ cap
  · have hlt : off + m < cur.size := by omega
    have hget : (w.alloc (.cells #[.int .i64 y] e)).cell? ⟨g, off + m, none⟩ = some cur[off + m] := by
      simp only [World.cell?, hc]; simp [hlt]
    have hrun := run_append_room_cells (P := P) (w.alloc (.cells #[.int .i64 y] e)) t o.type e i h1 hi g off m cap ⟨w.heap.size, 0, none⟩ 1 1 [.int .i64 y] (by rw [hz1]; rfl) hnews (fun u hu => by simp at hu; subst hu; rfl) hroom
      (fun j hj => by simp at hj; subst hj; rw [hz1, Nat.mul_one, Nat.add_zero, hget]; rfl) (fun j hj => frozen_of_row _ g _ cur e hc)
    rw [hz1, Nat.mul_one] at hrun
    simp only [World.setCells] at hrun
    unfold Oper.wp
    simp [execOp, hop, resolve, invoke, builtin, hs, hx, hrun, Result.andThen]
    have hcell' := heap_setCell_same (w.alloc (.cells #[.int .i64 y] e)) g (off + m) cur e (.int .i64 y) hc
    refine h g off cap _ ⟨hq.ge, by simp [hq.len], hroom, hq.max, _, hcell', by simpa using hsz, fun j hj => ?_⟩ ?_ (.inl rfl)
    · have hlm := hq.len
      simp only [List.length_append, List.length_singleton] at hj
      by_cases hjm : j = l.length
      · subst hjm
        rw [Array.getElem?_setIfInBounds, if_pos (by omega), if_pos (by omega)]
        simp
      · have hjl : j < l.length := by omega
        rw [Array.getElem?_setIfInBounds, if_neg (by omega)]
        have := hcell j hjl
        rw [this]
        simp [List.getD_eq_getElem?_getD, List.getElem?_append_left hjl]
    · refine ⟨rfl, rfl, rfl, by simp, fun k hk hne => ?_⟩
      rw [heap_setCell_other _ _ _ _ (fun e => hne (by rw [e]))]
      exact heap_alloc_old w _ hk
  · have hl1 : (ivs l).length = m := by rw [ivs_length]; exact hq.len.symm
    obtain ⟨v', w', hrun, r1, r2⟩ := run_append_arg_grows (P := P) (w.alloc (.cells #[.int .i64 y] e)) t o.type e i (.int .i64 0) 1 8 h1 hi hz0 hz1 hz2 rfl (by decide) ⟨g, off, none⟩ m cap (ivs l) (by rw [hl1, Nat.mul_one])
      (fun j u hj => by
        have hjl : j < l.length := by have := (List.getElem?_eq_some_iff.1 hj).1; simpa [ivs] using this
        rw [ivs_get l j hjl] at hj
        cases hj
        have := hqa.cell j hjl
        rw [show (⟨g, off, none⟩ : Addr).add j = ⟨g, off + j, none⟩ from by simp only [Addr.add]; split <;> simp [*]]; exact this) ⟨w.heap.size, 0, none⟩ 1 1 [.int .i64 y] rfl hnews (by omega) (by unfold maxLen; omega) (by omega)
    unfold Oper.wp
    simp [execOp, hop, resolve, invoke, builtin, hs, hx, hrun, Result.andThen]
    have e2 : ivs l ++ [Value.int .i64 y] = ivs (l ++ [y]) := by simp [ivs]
    have e3 : m + 1 = (l ++ [y]).length := by simp [hq.len]
    have ho : OwnI e w' (w.alloc (.cells #[.int .i64 y] e)).heap.size v' (l ++ [y]) := by unfold OwnI; rw [← e2, ← e3]; exact r1
    rcases ho.shape with ⟨_, h0⟩ | ⟨g', cap', rfl⟩
    · simp at h0
    · have hg' := ho.ge
      rw [← e3]
      refine h g' 0 cap' w' ?_ ?_ (.inr ?_)
      · have := Que.of_own ho
        rw [← e3] at this
        exact ⟨by simp at hg'; omega, this.len, this.le, this.max, this.blk⟩
      · exact ⟨r2.os, r2.tape, r2.output, Nat.le_trans (by simp) r2.size, fun k hk hne => (r2.block k (by simp; omega) (by simp)).trans (heap_alloc_old w _ hk)⟩
      · simp at hg'; omega
theorem wpList_appQ {P : Program} (w : World) {ops : Array Oper} {rest : List Oper} {o : Oper} {a : Act} {Q : Exit → Act → World → Prop}
    (hg : o.guard = none) (s x : Operand) (t : TypeId) (hop : o.op = Op.call { callee := Callee.builtin Builtin.append, args := #[s, x], argTypes := #[t, t] })
    (B : Nat) (e : TypeId) (h1 : P.underlying t = some (.slice e)) (hinfo : (P.info? e).map (fun i => (i.zero, i.size, i.bytes)) = some (some (.int .i64 0), 1, 8))
    (g off m cap : Nat) (l : List Int) (hs : a.eval s = .slice (some ⟨g, off, none⟩) m cap) (hq : Que e w B g off m cap l)
    (y : Int) (H : Nat) (hH : w.heap.size = H) (hx : a.eval x = .slice (some ⟨H, 0, none⟩) 1 1) (b1 : m + 1 ≤ 4398046511104) (b4 : B ≤ H)
    (h : ∀ g' off' cap' w', Que e w' B g' off' (m + 1) cap' (l ++ [y]) → w.grownBy w' (some g) → (g' = g ∨ H ≤ g') → wpList P ops Q rest (a.put o.dst (.slice (some ⟨g', off', none⟩) (m + 1) cap')) w') :
    wpList P ops Q (o :: rest) a (w.alloc (.cells #[.int .i64 y] e)) :=
  wpList_plain hg fun _ hK => wp_appQ w s x t hop B e h1 hinfo g off m cap l hs hq y H hH hx b1 b4 fun g' off' cap' w' a b c => hK _ _ (h g' off' cap' w' a b c)
end Go.Proofs.YtlnmebjbinmeiaaDoor.que
