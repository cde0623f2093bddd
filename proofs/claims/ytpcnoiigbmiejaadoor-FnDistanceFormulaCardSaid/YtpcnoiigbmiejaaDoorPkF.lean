/- Several texts in one: Que, DistP, Dist, DistS, DistO. -/
import Derived.WalkKit
import Derived.ArgAppend
import Derived.Test.YtpcnoiigbmiejaaDoorPk1
import Derived.Test.YtpcnoiigbmiejaaDoorRows
import Derived.Test.YtpcnoiigbmiejaaDoorPk2
import Derived.Test.YtpcnoiigbmiejaaDoorPk3
import Derived.Deep.LoopGhost
/- A slice of the call's own that may begin within its row: a queue: its head, what is left behind it, append of one. No program in sight. -/
namespace Go.Proofs.YtpcnoiigbmiejaaDoor.que
set_option linter.unusedVariables false
set_option linter.unusedSimpArgs false
open Go.RowKit Go.Proofs.YtpcnoiigbmiejaaDoor.lib

structure Que (T : TypeId) (w : World) (B g off m cap : Nat) (l : List Int) : Prop where
  ge : B ≤ g
  len : m = l.length
  le : m ≤ cap
  max : cap ≤ maxLen
  blk : ∃ cur, w.heap[g]? = some (.cells cur T (0, 0)) ∧ off + cap ≤ cur.size ∧ ∀ i, i < l.length → cur[off + i]? = some (.int .i64 (l.getD i 0))

variable {T : TypeId} {w w' : World} {B g off m cap : Nat} {l : List Int}
theorem Que.lt (h : Que T w B g off m cap l) : g < w.heap.size := by
  obtain ⟨cur, hc, _⟩ := h.blk
  exact (Array.getElem?_eq_some_iff.1 hc).1
theorem Que.same (h : Que T w B g off m cap l) (hb : w'.heap[g]? = w.heap[g]?) : Que T w' B g off m cap l := by
  obtain ⟨cur, hc, r⟩ := h.blk
  exact ⟨h.ge, h.len, h.le, h.max, cur, by rw [hb]; exact hc, r⟩
theorem Que.kept {row : Option Nat} (h : Que T w B g off m cap l) (hg : w.grownBy w' row) (hne : row ≠ some g) : Que T w' B g off m cap l :=
  h.same (hg.block g h.lt (fun e => hne e.symm))
theorem Que.below {C : Nat} (h : Que T w B g off m cap l) (hb : Below C w w') (hC : w.heap.size ≤ C) : Que T w' B g off m cap l :=
  h.same (hb.block g (Nat.lt_of_lt_of_le h.lt hC))
theorem Que.alloc (h : Que T w B g off m cap l) (o : Obj) : Que T (w.alloc o) B g off m cap l := h.kept (World.grownBy_alloc w o none) (by simp)
theorem Que.cell (h : Que T w B g off m cap l) (i : Nat) (hi : i < l.length) : w.cell? ⟨g, off + i, none⟩ = some (.int .i64 (l.getD i 0)) := by
  obtain ⟨cur, hc, _, hcell⟩ := h.blk
  have := hcell i hi
  simp [World.cell?, hc, this]
theorem Que.head {x : Int} {r : List Int} (h : Que T w B g off m cap (x :: r)) : w.cell? ⟨g, off, none⟩ = some (.int .i64 x) := by
  have := h.cell 0 (by simp)
  simpa using this
theorem Que.new (hB : B ≤ w.heap.size) (x : Int) (H : Nat) (hH : w.heap.size = H) : Que T (w.alloc (.cells #[.int .i64 x] T)) B H 0 1 1 [x] := by
  subst hH
  refine ⟨hB, rfl, Nat.le_refl _, by decide, _, heap_alloc_new w _, by simp, fun i hi => ?_⟩
  simp at hi
  subst hi
  rfl
theorem Que.pop {x : Int} {r : List Int} (h : Que T w B g off m cap (x :: r)) : Que T w B g (off + 1) (m - 1) (cap - 1) r := by
  obtain ⟨cur, hc, hs, hcell⟩ := h.blk
  have h1 := h.len
  have h2 := h.le
  have h3 := h.max
  simp only [List.length_cons] at h1
  refine ⟨h.ge, by omega, by omega, by omega, cur, hc, by omega, fun i hi => ?_⟩
  have := hcell (i + 1) (by simp; omega)
  rw [show off + (i + 1) = off + 1 + i from by omega] at this
  simpa using this
theorem Que.pop1 {x : Int} {r : List Int} (h : Que T w B g off m 1 (x :: r)) : Que T w B g off 0 0 r := by
  obtain ⟨cur, hc, hs, hcell⟩ := h.blk
  have h1 := h.len
  have h2 := h.le
  simp only [List.length_cons] at h1
  have hr : r = [] := List.length_eq_zero_iff.1 (by omega)
  subst hr
  exact ⟨h.ge, rfl, Nat.le_refl _, by decide, cur, hc, by omega, fun i hi => (by simp at hi)⟩
theorem Que.of_own {n : Nat} (h : OwnI T w B (.slice (some ⟨g, 0, none⟩) n cap) l) : Que T w B g 0 n cap l := by
  have hn := h.len
  rcases h.2 with ⟨h', _⟩ | ⟨g', cap', cur, h', hb, hh, hnc, hcm, hcs, ht⟩
  · simp at h'
  · simp only [Value.slice.injEq, Option.some.injEq, Addr.mk.injEq] at h'
    obtain ⟨⟨rfl, _⟩, _, rfl⟩ := h'
    refine ⟨hb, hn, by omega, hcm, cur, hh, by omega, fun i hi => ?_⟩
    have hx := ivs_get l i hi
    rw [Nat.zero_add]
    have e : (cur.toList.take (l.length * 1))[i]? = cur.toList[i]? := by rw [List.getElem?_take, if_pos (by omega)]
    rw [ht] at e
    rw [← Array.getElem?_toList, ← e]; exact hx

/-- append of one value: what the walk meets (the value laid in a block of its own first) -/
theorem wp_appQ {P : Program} (w : World) {o : Oper} {a : Act} {K : Act → World → Prop} {Q : Exit → Act → World → Prop}
    (s x : Operand) (t : TypeId) (hop : o.op = Op.call { callee := Callee.builtin Builtin.append, args := #[s, x], argTypes := #[t, t] })
    (B : Nat) (e : TypeId) (h1 : P.underlying t = some (.slice e)) (hinfo : (P.info? e).map (fun i => (i.zero, i.size, i.bytes)) = some (some (.int .i64 0), 1, 8))
    (g off m cap : Nat) (l : List Int) (hs : a.eval s = .slice (some ⟨g, off, none⟩) m cap) (hq : Que e w B g off m cap l)
    (y : Int) (H : Nat) (hH : w.heap.size = H) (hx : a.eval x = .slice (some ⟨H, 0, none⟩) 1 1) (b1 : m + 1 ≤ 4398046511104) (b4 : B ≤ H)
    (h : ∀ g' off' cap' w', Que e w' B g' off' (m + 1) cap' (l ++ [y]) → w.grownBy w' (some g) → (g' = g ∨ H ≤ g') → K (a.put o.dst (.slice (some ⟨g', off', none⟩) (m + 1) cap')) w') :
    o.wp P a (w.alloc (.cells #[.int .i64 y] e)) K Q := by
  subst hH
  obtain ⟨i, hi, hz0, hz1, hz2⟩ := info_parts hinfo
  have hqa : Que e (w.alloc (.cells #[.int .i64 y] e)) B g off m cap l := hq.alloc _
  have hnews : ∀ j u, [Value.int .i64 y][j]? = some u → (w.alloc (.cells #[.int .i64 y] e)).cell? ((⟨w.heap.size, 0, none⟩ : Addr).add j) = some u := by
    intro j u hj
    match j, hj with
    | 0, hj => simp at hj; subst hj; simp [Addr.add]
  obtain ⟨cur, hc, hsz, hcell⟩ := hqa.blk
  by_cases hroom : m + 1 ≤ cap
  · have hlt : off + m < cur.size := by omega
    have hget : (w.alloc (.cells #[.int .i64 y] e)).cell? ⟨g, off + m, none⟩ = some cur[off + m] := by
      simp only [World.cell?, hc]; simp [hlt]
    have hrun := run_append_room_cells (P := P) (w.alloc (.cells #[.int .i64 y] e)) t o.type e i h1 hi g off m cap ⟨w.heap.size, 0, none⟩ 1 1 [.int .i64 y] (by rw [hz1]; rfl) hnews (fun u hu => by simp at hu; subst hu; rfl) hroom
      (fun j hj => by simp at hj; subst hj; rw [hz1, Nat.mul_one, Nat.add_zero, hget]; rfl) (fun j hj => frozen_of_row _ g _ cur e hc)
    rw [hz1, Nat.mul_one] at hrun
    simp only [World.setCells] at hrun
    unfold Oper.wp
    simp [execOp, hop, resolve, invoke, builtin, hs, hx, hrun, Result.andThen]
    have hcell' := heap_setCell_same (w.alloc (.cells #[.int .i64 y] e)) g (off + m) cur e (.int .i64 y) hc
    refine h g off cap _ ⟨hq.ge, by simp [hq.len], hroom, hq.max, _, hcell', by simpa using hsz, fun j hj => ?_⟩ ?_ (.inl rfl)
    · have hlm := hq.len
      simp only [List.length_append, List.length_singleton] at hj
      by_cases hjm : j = l.length
      · subst hjm
        rw [Array.getElem?_setIfInBounds, if_pos (by omega), if_pos (by omega)]
        simp
      · have hjl : j < l.length := by omega
        rw [Array.getElem?_setIfInBounds, if_neg (by omega)]
        have := hcell j hjl
        rw [this]
        simp [List.getD_eq_getElem?_getD, List.getElem?_append_left hjl]
    · refine ⟨rfl, rfl, rfl, by simp, fun k hk hne => ?_⟩
      rw [heap_setCell_other _ _ _ _ (fun e => hne (by rw [e]))]
      exact heap_alloc_old w _ hk
  · have hl1 : (ivs l).length = m := by rw [ivs_length]; exact hq.len.symm
    obtain ⟨v', w', hrun, r1, r2⟩ := run_append_arg_grows (P := P) (w.alloc (.cells #[.int .i64 y] e)) t o.type e i (.int .i64 0) 1 8 h1 hi hz0 hz1 hz2 rfl (by decide) ⟨g, off, none⟩ m cap (ivs l) (by rw [hl1, Nat.mul_one])
      (fun j u hj => by
        have hjl : j < l.length := by have := (List.getElem?_eq_some_iff.1 hj).1; simpa [ivs] using this
        rw [ivs_get l j hjl] at hj
        cases hj
        have := hqa.cell j hjl
        rw [show (⟨g, off, none⟩ : Addr).add j = ⟨g, off + j, none⟩ from by simp only [Addr.add]; split <;> simp [*]]; exact this) ⟨w.heap.size, 0, none⟩ 1 1 [.int .i64 y] rfl hnews (by omega) (by unfold maxLen; omega) (by omega)
    unfold Oper.wp
    simp [execOp, hop, resolve, invoke, builtin, hs, hx, hrun, Result.andThen]
    have e2 : ivs l ++ [Value.int .i64 y] = ivs (l ++ [y]) := by simp [ivs]
    have e3 : m + 1 = (l ++ [y]).length := by simp [hq.len]
    have ho : OwnI e w' (w.alloc (.cells #[.int .i64 y] e)).heap.size v' (l ++ [y]) := by unfold OwnI; rw [← e2, ← e3]; exact r1
    rcases ho.shape with ⟨_, h0⟩ | ⟨g', cap', rfl⟩
    · simp at h0
    · have hg' := ho.ge
      rw [← e3]
      refine h g' 0 cap' w' ?_ ?_ (.inr ?_)
      · have := Que.of_own ho
        rw [← e3] at this
        exact ⟨by simp at hg'; omega, this.len, this.le, this.max, this.blk⟩
      · exact ⟨r2.os, r2.tape, r2.output, Nat.le_trans (by simp) r2.size, fun k hk hne => (r2.block k (by simp; omega) (by simp)).trans (heap_alloc_old w _ hk)⟩
      · simp at hg'; omega
theorem wpList_appQ {P : Program} (w : World) {ops : Array Oper} {rest : List Oper} {o : Oper} {a : Act} {Q : Exit → Act → World → Prop}
    (hg : o.guard = none) (s x : Operand) (t : TypeId) (hop : o.op = Op.call { callee := Callee.builtin Builtin.append, args := #[s, x], argTypes := #[t, t] })
    (B : Nat) (e : TypeId) (h1 : P.underlying t = some (.slice e)) (hinfo : (P.info? e).map (fun i => (i.zero, i.size, i.bytes)) = some (some (.int .i64 0), 1, 8))
    (g off m cap : Nat) (l : List Int) (hs : a.eval s = .slice (some ⟨g, off, none⟩) m cap) (hq : Que e w B g off m cap l)
    (y : Int) (H : Nat) (hH : w.heap.size = H) (hx : a.eval x = .slice (some ⟨H, 0, none⟩) 1 1) (b1 : m + 1 ≤ 4398046511104) (b4 : B ≤ H)
    (h : ∀ g' off' cap' w', Que e w' B g' off' (m + 1) cap' (l ++ [y]) → w.grownBy w' (some g) → (g' = g ∨ H ≤ g') → wpList P ops Q rest (a.put o.dst (.slice (some ⟨g', off', none⟩) (m + 1) cap')) w') :
    wpList P ops Q (o :: rest) a (w.alloc (.cells #[.int .i64 y] e)) :=
  wpList_plain hg fun _ hK => wp_appQ w s x t hop B e h1 hinfo g off m cap l hs hq y H hH hx b1 b4 fun g' off' cap' w' a b c => hK _ _ (h g' off' cap' w' a b c)
end Go.Proofs.YtpcnoiigbmiejaaDoor.que

/- Distances: what both searches compute, no program in sight. -/
namespace Go.Proofs.YtpcnoiigbmiejaaDoor.dist
set_option linter.unusedVariables false
set_option linter.unusedSimpArgs false
/-- out has the distances from x -/
structure IsDist (nb : Nat → Nat → Bool) (n x : Nat) (out : List Int) : Prop where
  len : out.length = n
  lo : ∀ y, y < n → -1 ≤ out.getD y 0
  zero : ∀ y, y < n → (out.getD y 0 = 0 ↔ y = x)
  pred : ∀ y, y < n → 0 < out.getD y 0 → ∃ z, z < n ∧ nb z y = true ∧ out.getD z 0 = out.getD y 0 - 1
  next : ∀ y z, y < n → z < n → 0 ≤ out.getD y 0 → nb y z = true → 0 ≤ out.getD z 0 ∧ out.getD z 0 ≤ out.getD y 0 + 1

theorem IsDist.le {nb : Nat → Nat → Bool} {n x : Nat} (hx : x < n) {a b : List Int} (ha : IsDist nb n x a) (hb : IsDist nb n x b) :
    ∀ (d : Nat) (y : Nat), y < n → a.getD y 0 = d → 0 ≤ b.getD y 0 ∧ b.getD y 0 ≤ d
  | 0, y, hy, h => by
    have : y = x := (ha.zero y hy).1 (by simpa using h)
    subst this
    have := (hb.zero y hy).2 rfl
    omega
  | d + 1, y, hy, h => by
    obtain ⟨z, hz, hn, he⟩ := ha.pred y hy (by omega)
    obtain ⟨h1, h2⟩ := IsDist.le hx ha hb d z hz (by omega)
    have := hb.next z y hz hy h1 hn
    omega
theorem IsDist.uniq {nb : Nat → Nat → Bool} {n x : Nat} (hx : x < n) {a b : List Int} (ha : IsDist nb n x a) (hb : IsDist nb n x b) : a = b := by
  apply List.ext_getElem (by rw [ha.len, hb.len])
  intro y h1 h2
  have hy : y < n := by rw [← ha.len]; exact h1
  have e : a.getD y 0 = b.getD y 0 := by
    have l1 := ha.lo y hy
    have l2 := hb.lo y hy
    by_cases p : 0 ≤ a.getD y 0
    · have r1 := IsDist.le hx ha hb (a.getD y 0).toNat y hy (by omega)
      have r2 := IsDist.le hx hb ha (b.getD y 0).toNat y hy (by omega)
      omega
    · by_cases q : 0 ≤ b.getD y 0
      · have r2 := IsDist.le hx hb ha (b.getD y 0).toNat y hy (by omega)
        omega
      · omega
  simpa [List.getD_eq_getElem?_getD, List.getElem?_eq_getElem h1, List.getElem?_eq_getElem h2] using e

/-- the program's search: v is at hand, 'todo' what is next to it and not seen yet -/
structure Mid (nb : Nat → Nat → Bool) (n x : Nat) (out : List Int) (queue : List Nat) (v : Nat) (todo : Nat → Prop) : Prop where
  len : out.length = n
  lo : ∀ y, y < n → -1 ≤ out.getD y 0
  zero : ∀ y, y < n → (out.getD y 0 = 0 ↔ y = x)
  pred : ∀ y, y < n → 0 < out.getD y 0 → ∃ z, z < n ∧ nb z y = true ∧ out.getD z 0 = out.getD y 0 - 1
  vn : v < n
  v0 : 0 ≤ out.getD v 0
  qin : ∀ q ∈ queue, q < n ∧ out.getD v 0 ≤ out.getD q 0 ∧ out.getD q 0 ≤ out.getD v 0 + 1
  sorted : queue.Pairwise fun p q => out.getD p 0 ≤ out.getD q 0
  top : ∀ y, y < n → out.getD y 0 ≤ out.getD v 0 + 1
  closed : ∀ y, y < n → 0 ≤ out.getD y 0 → y ∉ queue → y ≠ v → ∀ z, z < n → nb y z = true → 0 ≤ out.getD z 0 ∧ out.getD z 0 ≤ out.getD y 0 + 1
  done : ∀ z, z < n → nb v z = true → ¬ todo z → 0 ≤ out.getD z 0

theorem getD_set (l : List Int) (i j : Nat) (v : Int) (h : i < l.length) : (l.set i v).getD j 0 = if j = i then v else l.getD j 0 := by
  simp only [List.getD_eq_getElem?_getD, List.getElem?_set]
  by_cases e : i = j
  · subst e; simp [h]
  · rw [if_neg e, if_neg (fun h => e h.symm)]

variable {nb : Nat → Nat → Bool} {n x : Nat} {out : List Int} {queue : List Nat} {v : Nat} {todo : Nat → Prop}

theorem Mid.skip {y : Nat} (h : Mid nb n x out queue v todo) (hy : y < n) (h0 : 0 ≤ out.getD y 0) : Mid nb n x out queue v (fun z => todo z ∧ z ≠ y) :=
  ⟨h.len, h.lo, h.zero, h.pred, h.vn, h.v0, h.qin, h.sorted, h.top, h.closed, fun z hz hn ht => by
    by_cases e : z = y
    · subst e; exact h0
    · exact h.done z hz hn (fun t => ht ⟨t, e⟩)⟩
theorem Mid.push {y : Nat} (h : Mid nb n x out queue v todo) (hy : y < n) (h0 : out.getD y 0 < 0) (hnb : nb v y = true) :
    Mid nb n x (out.set y (out.getD v 0 + 1)) (queue ++ [y]) v (fun z => todo z ∧ z ≠ y) := by
  have hyl : y < out.length := by rw [h.len]; exact hy
  have g := fun j => getD_set out y j (out.getD v 0 + 1) hyl
  have hvy : v ≠ y := fun e => by have := h.v0; rw [e] at this; omega
  have hxy : x ≠ y := fun e => by
    have := (h.zero y hy).2 e.symm
    omega
  have gv : (out.set y (out.getD v 0 + 1)).getD v 0 = out.getD v 0 := by rw [g, if_neg hvy]
  have v0 := h.v0
  refine ⟨by rw [List.length_set]; exact h.len, fun z hz => ?_, fun z hz => ?_, fun z hz hp => ?_, h.vn, by rw [gv]; exact h.v0, fun q hq => ?_, ?_, fun z hz => ?_, fun z hz hz0 hnq hzv u hu hzu => ?_, fun z hz hn ht => ?_⟩
  · rw [g]; split
    · omega
    · exact h.lo z hz
  · rw [g]; split
    · rename_i e; subst e; constructor
      · intro e; omega
      · intro e; exact absurd e.symm hxy
    · exact h.zero z hz
  · rw [g] at hp ⊢
    split at hp
    · rename_i e; subst e
      refine ⟨v, h.vn, hnb, ?_⟩
      rw [if_pos rfl, gv]; omega
    · rename_i e
      obtain ⟨u, hu, hun, hue⟩ := h.pred z hz hp
      refine ⟨u, hu, hun, ?_⟩
      rw [if_neg e, g, if_neg ?_]
      · exact hue
      · intro e2; subst e2; omega
  · rw [gv]
    rcases List.mem_append.1 hq with hq | hq
    · have := h.qin q hq
      rw [g]; split
      · exact ⟨this.1, by omega, by omega⟩
      · exact this
    · rw [List.mem_singleton.1 hq, g, if_pos rfl]
      exact ⟨hy, by omega, by omega⟩
  · rw [List.pairwise_append]
    refine ⟨?_, List.pairwise_singleton _ _, fun p hp q hq => ?_⟩
    · refine h.sorted.imp_of_mem fun {p q} hp hq hpq => ?_
      have h1 := h.qin p hp
      have h2 := h.qin q hq
      rw [g, g, if_neg (fun e => by subst e; omega), if_neg (fun e => by subst e; omega)]
      exact hpq
    · rw [List.mem_singleton.1 hq, g, g, if_pos rfl]
      have h1 := h.qin p hp
      rw [if_neg (fun e => by subst e; omega)]
      exact h1.2.2
  · rw [gv, g]; split
    · omega
    · exact h.top z hz
  · rw [g] at hz0
    have hzq : z ∉ queue := fun hh => hnq (List.mem_append.2 (.inl hh))
    have hzy : z ≠ y := fun e => hnq (List.mem_append.2 (.inr (by simp [e])))
    rw [if_neg hzy] at hz0
    have := h.closed z hz hz0 hzq hzv u hu hzu
    rw [g, g, if_neg hzy, if_neg (fun e => by subst e; omega)]
    exact this
  · rw [g]; split
    · omega
    · rename_i e; exact h.done z hz hn (fun t => ht ⟨t, e⟩)

/-- v is done: the next one of the queue -/
theorem Mid.pop {q : Nat} {rest : List Nat} (h : Mid nb n x out (q :: rest) v todo) (ht : ∀ z, z < n → nb v z = true → ¬ todo z) :
    Mid nb n x out rest q (fun _ => True) := by
  obtain ⟨hq1, hq2, hq3⟩ := h.qin q List.mem_cons_self
  have hs := List.pairwise_cons.1 h.sorted
  have v0 := h.v0
  refine ⟨h.len, h.lo, h.zero, h.pred, hq1, by omega, fun p hp => ?_, hs.2, fun y hy => ?_, fun y hy h0 hnq hyq z hz hn => ?_, fun z hz hn hf => absurd trivial hf⟩
  · have := h.qin p (List.mem_cons_of_mem _ hp)
    exact ⟨this.1, hs.1 p hp, by omega⟩
  · have := h.top y hy; omega
  · by_cases e : y = v
    · subst e
      have h1 := h.done z hz hn (ht z hz hn)
      exact ⟨h1, h.top z hz⟩
    · refine h.closed y hy h0 (fun hm => ?_) e z hz hn
      rcases List.mem_cons.1 hm with r | r
      · exact hyq r
      · exact hnq r
theorem Mid.fin (h : Mid nb n x out [] v todo) (ht : ∀ z, z < n → nb v z = true → ¬ todo z) : IsDist nb n x out := by
  refine ⟨h.len, h.lo, h.zero, h.pred, fun y z hy hz h0 hn => ?_⟩
  by_cases e : y = v
  · subst e
    exact ⟨h.done z hz hn (ht z hz hn), h.top z hz⟩
  · exact h.closed y hy h0 (by simp) e z hz hn
/-- at the start -/
theorem Mid.start (hx : x < n) : Mid nb n x ((List.replicate n (-1 : Int)).set x 0) [] x (fun _ => True) := by
  have hl : x < (List.replicate n (-1 : Int)).length := by simpa using hx
  have g : ∀ j, j < n → ((List.replicate n (-1 : Int)).set x 0).getD j 0 = if j = x then 0 else -1 := fun j hj => by
    rw [getD_set _ _ _ _ hl]
    split
    · rfl
    · simp [List.getD_eq_getElem?_getD, hj]
  refine ⟨by simp, fun y hy => ?_, fun y hy => ?_, fun y hy hp => ?_, hx, ?_, fun q hq => (by cases hq), List.Pairwise.nil, fun y hy => ?_, fun y hy h0 _ hv => ?_, fun z hz hn hf => absurd trivial hf⟩
  · rw [g y hy]; split <;> omega
  · rw [g y hy]; split <;> simp [*]
  · rw [g y hy] at hp; split at hp <;> omega
  · rw [g x hx, if_pos rfl]; exact Int.le_refl _
  · rw [g y hy, g x hx, if_pos rfl]; split <;> omega
  · rw [g y hy, if_neg hv] at h0; omega

/-- the reference's search: level m, element i of it, what is next to it up to j -/
structure Lv (nb : Nat → Nat → Bool) (n x : Nat) (m i j : Nat) (out : List Int) : Prop where
  len : out.length = n
  lo : ∀ y, y < n → -1 ≤ out.getD y 0
  zero : ∀ y, y < n → (out.getD y 0 = 0 ↔ y = x)
  pred : ∀ y, y < n → 0 < out.getD y 0 → ∃ z, z < n ∧ nb z y = true ∧ out.getD z 0 = out.getD y 0 - 1
  top : ∀ y, y < n → out.getD y 0 ≤ m + 1
  closed : ∀ y, y < n → 0 ≤ out.getD y 0 → (out.getD y 0 < m ∨ (out.getD y 0 = m ∧ y < i)) → ∀ z, z < n → nb y z = true → 0 ≤ out.getD z 0 ∧ out.getD z 0 ≤ out.getD y 0 + 1
  cur : out.getD i 0 = m → ∀ z, z < j → z < n → nb i z = true → 0 ≤ out.getD z 0

theorem Lv.start (hx : x < n) : Lv nb n x 0 0 0 ((List.replicate n (-1 : Int)).set x 0) := by
  have h := Mid.start (nb := nb) hx
  refine ⟨h.len, h.lo, h.zero, h.pred, fun y hy => ?_, fun y hy h0 hc => ?_, fun _ z hz => (by omega)⟩
  · have h1 := h.top y hy
    have h2 := (h.zero x hx).2 rfl
    rw [h2] at h1; simpa using h1
  · rcases hc with hc | hc <;> omega
variable {m i j : Nat}
theorem Lv.keep (h : Lv nb n x m i j out) (hk : nb i j = true → j < n → 0 ≤ out.getD j 0) : Lv nb n x m i (j + 1) out := by
  refine ⟨h.len, h.lo, h.zero, h.pred, h.top, h.closed, fun hi z hz hzn hn => ?_⟩
  by_cases e : z = j
  · subst e; exact hk hn hzn
  · exact h.cur hi z (by omega) hzn hn
theorem Lv.put (h : Lv nb n x m i j out) (hi : i < n) (hj : j < n) (him : out.getD i 0 = m) (h0 : out.getD j 0 < 0) (hnb : nb i j = true) : Lv nb n x m i (j + 1) (out.set j (m + 1)) := by
  have hjl : j < out.length := by rw [h.len]; exact hj
  have g := fun k => getD_set out j k ((m : Int) + 1) hjl
  have hij : i ≠ j := fun e => by rw [e] at him; omega
  have gi : (out.set j ((m : Int) + 1)).getD i 0 = m := by rw [g, if_neg hij]; exact him
  have hxj : x ≠ j := fun e => by have := (h.zero j hj).2 e.symm; omega
  refine ⟨by rw [List.length_set]; exact h.len, fun y hy => ?_, fun y hy => ?_, fun y hy hp => ?_, fun y hy => ?_, fun y hy h1 hc z hz hn => ?_, fun _ z hz hzn hn => ?_⟩
  · rw [g]; split
    · omega
    · exact h.lo y hy
  · rw [g]; split
    · rename_i e; subst e; constructor
      · intro e; omega
      · intro e; exact absurd e.symm hxj
    · exact h.zero y hy
  · rw [g] at hp ⊢
    split at hp
    · rename_i e; subst e
      exact ⟨i, hi, hnb, by rw [if_pos rfl, gi]; omega⟩
    · rename_i e
      obtain ⟨u, hu, hun, hue⟩ := h.pred y hy hp
      refine ⟨u, hu, hun, ?_⟩
      rw [if_neg e, g, if_neg (fun e2 => by subst e2; omega)]
      exact hue
  · rw [g]; split
    · exact Int.le_refl _
    · exact h.top y hy
  · rw [g] at h1 hc
    split at h1
    · rename_i e; subst e; simp only [if_true] at hc; rcases hc with hc | hc <;> omega
    · rename_i e
      rw [if_neg e] at hc
      have := h.closed y hy h1 hc z hz hn
      rw [g, g y, if_neg e, if_neg (fun e2 => by subst e2; omega)]
      exact this
  · rw [g]; split
    · omega
    · rename_i e; exact h.cur him z (by omega) hzn hn
theorem Lv.nextY (h : Lv nb n x m i j out) (hj : out.getD i 0 = m → j = n) : Lv nb n x m (i + 1) 0 out := by
  refine ⟨h.len, h.lo, h.zero, h.pred, h.top, fun y hy h0 hc z hz hn => ?_, fun _ z hz => (by omega)⟩
  by_cases e : out.getD y 0 = m ∧ y = i
  · obtain ⟨e1, rfl⟩ := e
    have := h.cur e1 z (by rw [hj e1]; exact hz) hz hn
    have := h.top z hz
    omega
  · exact h.closed y hy h0 (by rcases hc with hc | hc <;> omega) z hz hn
theorem Lv.nextM (h : Lv nb n x m n j out) : Lv nb n x (m + 1) 0 0 out := by
  refine ⟨h.len, h.lo, h.zero, h.pred, fun y hy => (by have := h.top y hy; omega), fun y hy h0 hc z hz hn => ?_, fun _ z hz => (by omega)⟩
  exact h.closed y hy h0 (by rcases hc with hc | hc <;> omega) z hz hn

theorem nodup_len {α : Type} [DecidableEq α] : ∀ (l1 l2 : List α), l1.Nodup → (∀ a ∈ l1, a ∈ l2) → l1.length ≤ l2.length
  | [], _, _, _ => Nat.zero_le _
  | a :: l1, l2, hn, hs => by
    have hn' := List.nodup_cons.1 hn
    have ha := hs a List.mem_cons_self
    have := nodup_len l1 (l2.erase a) hn'.2 (fun b hb => (List.mem_erase_of_ne (fun e => hn'.1 (by rw [← e]; exact hb))).2 (hs b (List.mem_cons_of_mem _ hb)))
    rw [List.length_erase_of_mem ha] at this
    have : 0 < l2.length := List.length_pos_of_mem ha
    simp only [List.length_cons]; omega
theorem Lv.chain (h : Lv nb n x m i j out) : ∀ (k y : Nat), y < n → out.getD y 0 = k → ∀ t, t ≤ k → (t : Int) ∈ out
  | k, y, hy, he, t, ht => by
    by_cases e : t = k
    · subst e
      have hl : y < out.length := by rw [h.len]; exact hy
      rw [← he, List.getD_eq_getElem?_getD, List.getElem?_eq_getElem hl]
      exact List.getElem_mem hl
    · obtain ⟨z, hz, _, hze⟩ := h.pred y hy (by omega)
      cases k with
      | zero => omega
      | succ k => exact h.chain k z hz (by omega) t (by omega)
theorem Lv.small (h : Lv nb n x m i j out) (y : Nat) (hy : y < n) : out.getD y 0 < n := by
  by_cases h0 : out.getD y 0 < 0
  · omega
  have hc := h.chain (out.getD y 0).toNat y hy (by omega)
  have hl := nodup_len ((List.range ((out.getD y 0).toNat + 1)).map (fun t : Nat => (t : Int))) out (by
    rw [List.nodup_iff_pairwise_ne, List.pairwise_map]
    exact (List.nodup_iff_pairwise_ne.1 List.nodup_range).imp (fun hab e => hab (by omega))) (fun a ha => by
    obtain ⟨t, ht, rfl⟩ := List.mem_map.1 ha
    exact hc t (by have := List.mem_range.1 ht; omega))
  rw [List.length_map, List.length_range, h.len] at hl
  omega
theorem Lv.fin (h : Lv nb n x n 0 0 out) : IsDist nb n x out :=
  ⟨h.len, h.lo, h.zero, h.pred, fun y z hy hz h0 hn => h.closed y hy h0 (.inl (h.small y hy)) z hz hn⟩

/-- the distances -/
noncomputable def distL (nb : Nat → Nat → Bool) (n x : Nat) : List Int := Classical.epsilon (IsDist nb n x)
theorem distL_eq (hx : x < n) (h : IsDist nb n x out) : distL nb n x = out := (Classical.epsilon_spec ⟨out, h⟩ : IsDist nb n x (distL nb n x)).uniq hx h
end Go.Proofs.YtpcnoiigbmiejaaDoor.dist

/- Distances: distancesFrom, l9Distances, DistanceOf in the program and in the reference. -/
namespace Go.Proofs.YtpcnoiigbmiejaaDoor.dist
set_option linter.unusedVariables false
set_option linter.unusedSimpArgs false
open Go.ChangeShapes Go.WideShapes Go.ChangeAt Go.RowKit
open Go.Proofs.YtpcnoiigbmiejaaDoor.lib Go.Proofs.YtpcnoiigbmiejaaDoor.st Go.Proofs.YtpcnoiigbmiejaaDoor.base Go.Proofs.YtpcnoiigbmiejaaDoor.near Go.Proofs.YtpcnoiigbmiejaaDoor.que

set_option maxHeartbeats 1600000 in
theorem besides_any (n : Nat) (w : World) (hn : n ≤ 4398046511) :
    Calls Tryd.prog 137 #[.int .i64 n] w fun e w' => ∃ v, e = .returned v ∧ OwnI 3 w' w.heap.size v (List.replicate n (-1)) ∧ Below w.heap.size w w' := by
  have he : Hid (OwnI 3 (w.alloc (.cells #[] 3)) w.heap.size (.slice (some ⟨w.heap.size, 0, none⟩) 0 0) []) := emptyRow _ _ _ _ rfl (Nat.le_refl _)
  have hb0 : Hid (Below w.heap.size w (w.alloc (.cells #[] 3))) := (Below.refl _ _).alloc (Nat.le_refl _) _
  go_enter Tryd.func137, Tryd.ntmps137
  go_wp2
  go_loopw [3, 6] (fun v i wr => ∃ k : Nat, k ≤ n ∧ i = .int .i64 k ∧ OwnI 3 wr w.heap.size v (List.replicate k (-1)) ∧ Below w.heap.size w wr) (fun _ i _ => n - (intOf i).toNat)
  case atStart => exact ⟨0, Nat.zero_le _, rfl, he.out, hb0.out⟩
  case round =>
    obtain ⟨k, hk, rfl, hown, hnx⟩ := hrel
    have HO := Lib.hid hown
    have HX := Lib.hid hnx
    clear hown hnx
    by_cases hlt : k < n
    · have hsz : w.heap.size ≤ wr.heap.size := HX.out.size
      go_wp2_with (at_builtin; refine wpList_app1 wr rfl (.tmp 8) (.tmp 9) 32 rfl w.heap.size 3 (.int .i64 0) 8 Tryd.underlying32 infoInt rfl (by decide) _ _ _ (.int .i64 (-1)) rfl HO.out wr.heap.size rfl rfl rfl (by rw [List.length_replicate]; omega) hsz ?_)
      intro g cap' w9 hown9 hgr
      have R : Hid (OwnI 3 w9 w.heap.size (.slice (some ⟨g, 0, none⟩) (k + 1) cap') (List.replicate (k + 1) (-1)) ∧ Below w.heap.size w w9) :=
        ⟨by rw [List.replicate_succ']; unfold OwnI; rw [List.length_append, ivs_append, List.length_replicate]; exact hown9, HX.out.trans (hgr.below HO.out hsz)⟩
      clear hown9 hgr hsz
      go_wp2
      go_roundw
      case rel => exact ⟨k + 1, by omega, by go_num, R.out.1, R.out.2⟩
      case measure => simp [intOf]; omega
    · obtain rfl : k = n := by omega
      go_wp2
      go_ret
      exact ⟨_, rfl, HO.out, HX.out⟩

def negs (out : List Int) : Nat := (out.filter (fun d => decide (d < 0))).length
theorem negs_set (out : List Int) (y : Nat) (d : Int) (hy : y < out.length) (h : out.getD y 0 < 0) (hd : 0 ≤ d) : negs (out.set y d) + 1 = negs out := by
  induction out generalizing y with
  | nil => simp at hy
  | cons a l ih =>
    cases y with
    | zero =>
      simp at h
      simp only [List.set_cons_zero, negs, List.filter_cons]
      rw [if_neg (by simp; omega), if_pos (by simpa using h)]
      simp
    | succ y =>
      simp at hy h
      have := ih y hy (by simpa using h)
      simp only [List.set_cons_succ, negs, List.filter_cons] at this ⊢
      split
      · simp only [List.length_cons]; omega
      · exact this
theorem negs_start (n x : Nat) (hx : x < n) : negs ((List.replicate n (-1 : Int)).set x 0) + 1 = n := by
  rw [negs_set _ _ _ (by simpa using hx) (by simp [List.getD_eq_getElem?_getD, hx]) (Int.le_refl _)]
  simp [negs]

/-- no distance is too great -/
def Bd (n : Nat) (out : List Int) : Prop := ∀ y, y < n → out.getD y 0 + negs out + 1 ≤ n
theorem Bd.put {n : Nat} {out : List Int} (h : Bd n out) (hl : out.length = n) {v y : Nat} (hv : v < n) (hy : y < n) (h0 : out.getD y 0 < 0) (hv0 : 0 ≤ out.getD v 0) : Bd n (out.set y (out.getD v 0 + 1)) := by
  intro z hz
  have h1 := negs_set out y (out.getD v 0 + 1) (by omega) h0 (by omega)
  rw [getD_set _ _ _ _ (by omega)]
  have h2 := h v hv
  have h3 := h z hz
  split <;> omega
theorem Bd.start {n x : Nat} (hx : x < n) : Bd n ((List.replicate n (-1 : Int)).set x 0) := by
  intro z hz
  have h1 := negs_start n x hx
  rw [getD_set _ _ _ _ (by simpa using hx)]
  split
  · omega
  · simp only [List.getD_eq_getElem?_getD, List.getElem?_replicate, if_pos hz, Option.getD_some]; omega

theorem Mid.weak {nb : Nat → Nat → Bool} {n x : Nat} {out : List Int} {queue : List Nat} {v : Nat} {todo todo2 : Nat → Prop} (h : Mid nb n x out queue v todo) (ht : ∀ z, todo z → todo2 z) : Mid nb n x out queue v todo2 :=
  ⟨h.len, h.lo, h.zero, h.pred, h.vn, h.v0, h.qin, h.sorted, h.top, h.closed, fun z hz hn h2 => h.done z hz hn (fun t => h2 (ht z t))⟩

/-- at the head of the search's loop -/
def Head (nb : Nat → Nat → Bool) (n x : Nat) (out : List Int) : List Nat → Prop
  | [] => IsDist nb n x out
  | q :: rest => Mid nb n x out rest q (fun _ => True)
theorem Head.of {nb : Nat → Nat → Bool} {n x : Nat} {out : List Int} {queue : List Nat} {v : Nat} {todo : Nat → Prop} (h : Mid nb n x out queue v todo) (ht : ∀ z, z < n → nb v z = true → ¬ todo z) : Head nb n x out queue := by
  cases queue with
  | nil => exact h.fin ht
  | cons q rest => exact h.pop ht

theorem nearTo_get {n : Nat} {r : ByteArray} {v : Nat} {k : Nat} (h : k < (nearTo n r v n).length) : ∃ Y : Nat, (nearTo n r v n).getD k 0 = (Y : Int) ∧ Y < n ∧ adj n r v Y = true := by
  have hm : (nearTo n r v n).getD k 0 ∈ nearTo n r v n := by
    rw [List.getD_eq_getElem?_getD, List.getElem?_eq_getElem h]; exact List.getElem_mem h
  unfold nearTo at hm ⊢
  obtain ⟨Y, hY, he⟩ := List.mem_map.1 hm
  have := List.mem_filter.1 hY
  exact ⟨Y, he.symm, List.mem_range.1 this.1, this.2⟩
theorem nearTo_mem {n : Nat} {r : ByteArray} {v z : Nat} (hz : z < n) (h : adj n r v z = true) : (z : Int) ∈ nearTo n r v n := by
  unfold nearTo
  exact List.mem_map.2 ⟨z, List.mem_filter.2 ⟨List.mem_range.2 hz, h⟩, rfl⟩

/-- what the search holds: the distances so far, the queue -/
structure Sea (w : World) (HB go co n g off m cap : Nat) (out : List Int) (Q : List Nat) : Prop where
  own : OwnI 3 w HB (.slice (some ⟨go, 0, none⟩) n co) out
  que : Que 3 w HB g off m cap (Q.map fun q : Nat => (q : Int))
  ne : go ≠ g
structure Nr (w : World) (HN go g : Nat) (nv : Value) (L : List Int) : Prop where
  own : OwnI 3 w HN nv L
  n1 : nv.ownBlock ≠ some go
  n2 : nv.ownBlock ≠ some g

variable {w w' : World} {HB HN go co n g off m cap : Nat} {out : List Int} {Q : List Nat} {nv : Value} {L : List Int}
theorem Sea.below {C : Nat} (h : Sea w HB go co n g off m cap out Q) (hb : Below C w w') (hC : w.heap.size ≤ C) : Sea w' HB go co n g off m cap out Q :=
  ⟨h.own.below hb hC, h.que.below hb hC, h.ne⟩
theorem Sea.set (h : Sea w HB go co n g off m cap out Q) (y : Nat) (d : Int) : Sea (w.setCell ⟨go, y, none⟩ (.int .i64 d)) HB go co n g off m cap (out.set y d) Q :=
  ⟨h.own.set y d, h.que.kept (h.own.setGrown y d) (fun e => h.ne (by simpa using e)), h.ne⟩
theorem Nr.set (hn : Nr w HN go g nv L) (h : Sea w HB go co n g off m cap out Q) (y : Nat) (d : Int) : Nr (w.setCell ⟨go, y, none⟩ (.int .i64 d)) HN go g nv L :=
  ⟨World.ownsRow.kept hn.own (h.own.setGrown y d) (.inr hn.n1), hn.n1, hn.n2⟩
theorem Sea.app {g' off' m' cap' y : Nat} (h : Sea w HB go co n g off m cap out Q) (hq : Que 3 w' HB g' off' m' cap' (Q.map (fun q : Nat => (q : Int)) ++ [(y : Int)])) (hg : w.grownBy w' (some g)) (hn : g' = g ∨ w.heap.size ≤ g') :
    Sea w' HB go co n g' off' m' cap' out (Q ++ [y]) := by
  refine ⟨World.ownsRow.kept h.own hg (.inr fun e => h.ne (by simpa [Value.ownBlock] using e)), by rw [List.map_append]; exact hq, ?_⟩
  rcases hn with rfl | hn
  · exact h.ne
  · have := h.own.ge; omega
theorem Nr.app {g' : Nat} (h : Nr w HN go g nv L) (hg : w.grownBy w' (some g)) (hn : g' = g ∨ w.heap.size ≤ g') : Nr w' HN go g' nv L := by
  refine ⟨World.ownsRow.kept h.own hg (.inr h.n2), h.n1, ?_⟩
  rcases hn with rfl | hn
  · exact h.n2
  · intro e
    have := (World.ownsRow.lt h.own g' e).2; omega

/-- the state of the inner loop -/
def Inner (n : Nat) (r : ByteArray) (x v : Nat) (w0 : World) (HB HN go co gk : Nat) (nv q i : Value) (wr : World) : Prop :=
  ∃ (k g off m cap : Nat) (out : List Int) (Q : List Nat), k ≤ (nearTo n r v n).length ∧ i = .int .i64 k ∧ q = .slice (some ⟨g, off, none⟩) m cap ∧ negs out + Q.length + 1 = gk ∧ Sea wr HB go co n g off m cap out Q ∧ Nr wr HN go g nv (nearTo n r v n) ∧
    Mid (adj n r) n x out Q v (fun z => (z : Int) ∉ (nearTo n r v n).take k) ∧ Bd n out ∧ Below HB w0 wr
def Outer (n : Nat) (r : ByteArray) (x : Nat) (w0 : World) (HB go co gk : Nat) (q : Value) (wr : World) : Prop :=
  ∃ (g off m cap : Nat) (out : List Int) (Q : List Nat), q = .slice (some ⟨g, off, none⟩) m cap ∧ negs out + Q.length = gk ∧ Sea wr HB go co n g off m cap out Q ∧ Head (adj n r) n x out Q ∧ Bd n out ∧ Below HB w0 wr

theorem todo_succ {L : List Int} {k : Nat} {Y : Nat} (hk : k < L.length) (hY : L.getD k 0 = (Y : Int)) (z : Nat) (h : (z : Int) ∉ L.take k ∧ z ≠ Y) : (z : Int) ∉ L.take (k + 1) := by
  rw [List.take_succ_eq_append_getElem hk]
  rw [List.getD_eq_getElem?_getD, List.getElem?_eq_getElem hk] at hY
  intro hm
  rcases List.mem_append.1 hm with hm | hm
  · exact h.1 hm
  · simp at hm hY
    rw [hY] at hm
    exact h.2 (by omega)

set_option maxHeartbeats 3200000 in
theorem distancesFrom_any (n : Nat) (s r : ByteArray) (x : Nat) (w : World) (hx : x < n) (hn : n ≤ 8) (hr : r.size = n * n) :
    Calls Tryd.prog 92 #[.agg #[.int .i64 n, .string s, .string r], .int .i64 x] w fun e w' => ∃ v out, e = .returned v ∧ OwnI 3 w' w.heap.size v out ∧ IsDist (adj n r) n x out ∧ Below w.heap.size w w' := by
  obtain ⟨HB, hHB⟩ : ∃ HB, HB = w.heap.size + 1 := ⟨_, rfl⟩
  have BX : Hid (Box 24 (w.alloc (.cells #[.int .i64 n, .string s, .string r] 24)) w.heap.size n s r) := Box.new _ w _ rfl n s r
  have AW : Hid (Below w.heap.size w (w.alloc (.cells #[.int .i64 n, .string s, .string r] 24))) := (Below.refl _ _).alloc (Nat.le_refl _) _
  have HBS : Hid ((w.alloc (.cells #[.int .i64 n, .string s, .string r] 24)).heap.size = HB) := by rw [hHB]; simp [Hid]
  have HHB := Lib.hid hHB
  have HR := Lib.hid hr
  clear hr hHB
  go_enter Tryd.func92, Tryd.ntmps92
  go_wp2_with fail
  refine (besides_any n _ (by omega)).mono ?_
  rintro e w1 ⟨v, rfl, ho, hw⟩
  have HL := negs_start n x hx
  rcases ho.shape with ⟨_, h0⟩ | ⟨go, co, rfl⟩
  · have := congrArg List.length h0
    simp at this; omega
  rw [List.length_replicate] at ho ⊢
  rw [HBS.out] at ho hw
  have HX1 := Lib.hid hw
  have hgo := ho.ge
  have HGO := Lib.hid hgo
  have hz1 := Nat.lt_of_le_of_lt hgo.1 hgo.2
  have hfz : w1.frozen? ⟨go, x, none⟩ = false := ho.free x
  have hce := ho.cell x (by simpa using hx)
  have hxl : x < (List.replicate n (-1 : Int)).length := by simpa using hx
  have hset : Sea ((w1.setCell ⟨go, x, none⟩ (.int .i64 0)).alloc (.cells #[.int .i64 x] 3)) HB go co n w1.heap.size 0 1 1 ((List.replicate n (-1)).set x 0) [x] :=
    ⟨(ho.set x 0).below ((Below.refl _ _).alloc (Nat.le_refl _) _) (Nat.le_refl _), Que.new (by simp; omega) _ _ (by simp), by omega⟩
  have hb2 : Below HB (w.alloc (.cells #[.int .i64 n, .string s, .string r] 24)) ((w1.setCell ⟨go, x, none⟩ (.int .i64 0)).alloc (.cells #[.int .i64 x] 3)) := (hw.setCell (by exact hgo.1) _).alloc (by simp; omega) _
  have S := Lib.hid (show _ ∧ _ ∧ _ from ⟨HL, hset, hb2⟩)
  clear HL hset hb2 ho hw hgo
  go_wp2
  go_loopg [6] n (fun gk q wr => Outer n r x (w.alloc (.cells #[.int .i64 n, .string s, .string r] 24)) HB go co gk q wr ∧ gk ≤ n)
  case atStart => exact ⟨⟨_, _, _, _, _, [x], rfl, S.out.1, S.out.2.1, Mid.start hx, Bd.start hx, S.out.2.2⟩, Nat.le_refl _⟩
  case round =>
    obtain ⟨⟨g, off, m, cap, out, Q, rfl, hgk, hsea, hhead, hbd, hnx⟩, hgn⟩ := hrel
    obtain ⟨wo, rfl⟩ : ∃ q : World, q = wr := ⟨_, rfl⟩
    have HBD := Lib.hid hbd
    clear hbd
    obtain ⟨c0, c1, c2⟩ := (BX.out.below hnx (by have := HHB.out; omega)).c
    have HM := Lib.hid hsea.que.len
    have HGK := Lib.hid hgk
    have HX := Lib.hid hnx
    clear hgk hnx
    cases Q with
    | nil =>
      have hm0 : m = 0 := by simpa using HM.out
      subst hm0
      have R := Lib.hid (show _ ∧ _ from ⟨hsea.own, hhead⟩)
      clear hsea hhead
      go_wp2
      go_ret
      exact ⟨_, _, rfl, R.out.1.mono (by have := HHB.out; omega), R.out.2, AW.out.trans (HX.out.mono (by have := HHB.out; omega))⟩
    | cons V Q =>
      have hq := hsea.que
      simp only [List.map_cons] at hq
      have hmc := hq.le
      have hcm := hq.max
      unfold maxLen at hcm
      have hm1 : 0 < m := by have := HM.out; simp at this; omega
      have hcell := hq.head
      have HV : Hid (Mid (adj n r) n x out Q V (fun _ => True)) := hhead
      have HS := Lib.hid hsea
      have HQ := Lib.hid hq
      have hVn : V < n := HV.out.vn
      clear hsea hq hhead
      have hnegs : negs out + Q.length + 1 = gk := by have := HGK.out; simp at this; omega
      have HNG := Lib.hid hnegs
      clear hnegs
      have HP : Hid ((cap = 1 → Que 3 wo HB g off 0 0 (Q.map fun q : Nat => (q : Int))) ∧ (Que 3 wo HB g (off + 1) (m - 1) (cap - 1) (Q.map fun q : Nat => (q : Int)))) :=
        ⟨fun h => by subst h; exact HQ.out.pop1, HQ.out.pop⟩
      obtain ⟨hown, hne⟩ : OwnI 3 wo HB (.slice (some ⟨go, 0, none⟩) n co) out ∧ go ≠ g := ⟨HS.out.own, HS.out.ne⟩
      have HO := Lib.hid (show _ ∧ _ from ⟨hown, hne⟩)
      clear hown hne
      by_cases hc1 : cap = 1
      · have HQ2 := Lib.hid (HP.out.1 hc1)
        subst hc1
        obtain rfl : m = 1 := by omega
        clear HP HQ HS
        go_wp2_with fail
        refine (nearOf_any n s r V _ hVn hn HR.out).mono ?_
        rintro e w2 ⟨nv, rfl, hno, hw⟩
        have hnl := nearTo_len n r V n
        obtain ⟨ao, cn, hnv⟩ := hno.reads.len
        obtain ⟨N, hN⟩ : ∃ N, N = (nearTo n r V n).length := ⟨_, rfl⟩
        rw [← hN] at hnl hnv
        subst hnv
        have hgg := HQ2.out.lt
        have START : Hid (Inner n r x V (w.alloc (.cells #[.int .i64 n, .string s, .string r] 24)) HB wo.heap.size go co gk (.slice ao N cn) _ (.int .i64 0) w2) :=
          ⟨0, _, _, _, _, out, Q, Nat.zero_le _, rfl, rfl, HNG.out, ⟨HO.out.1.below hw (Nat.le_refl _), HQ2.out.below hw (Nat.le_refl _), HO.out.2⟩,
            ⟨hno, fun e => by have := (World.ownsRow.lt hno go e).1; have := HO.out.1.ge; omega, fun e => by have := (World.ownsRow.lt hno g e).1; omega⟩,
            Mid.weak HV.out (fun z _ => by simp), HBD.out, HX.out.trans (hw.mono (by have := HX.out.size; have := HBS.out; omega))⟩
        have HNN := Lib.hid hN
        clear hN hno hw HO HQ2 HNG HGK hgg
        go_wp2_with fail
        go_loopw [6, 30] (fun q i wr => Inner n r x V (w.alloc (.cells #[.int .i64 n, .string s, .string r] 24)) HB wo.heap.size go co gk (.slice ao N cn) q i wr) (fun _ i _ => N - (intOf i).toNat)
        case atStart => exact START.out
        case round =>
          obtain ⟨k, g2, off2, m2, cap2, out2, Q2, hk, rfl, rfl, hng2, hsea, hnr, hmid, hbd, hnx⟩ := hrel
          have hmlen := hsea.que.len
          rw [List.length_map] at hmlen
          have hQle : m2 + 1 ≤ 4398046511104 := by omega
          have HK := Lib.hid (show _ ∧ _ ∧ _ ∧ _ ∧ _ ∧ _ ∧ _ ∧ _ from ⟨hk, hng2, hsea, hnr, hmid, hbd, hnx, hmlen⟩)
          clear hk hng2 hsea hnr hmid hbd hnx hmlen
          by_cases hlt : k < N
          · obtain ⟨Y, hY, hYn, hYa⟩ := nearTo_get (n := n) (r := r) (v := V) (k := k) (by have := HNN.out; omega)
            have hreads := HK.out.2.2.2.1.own.reads
            obtain ⟨ao', cap', hv', hcs, -⟩ := hreads
            simp only [Value.slice.injEq] at hv'
            obtain ⟨rfl, -, rfl⟩ := hv'
            rcases hcs with hcs | ⟨bn, on, rfl, hcs⟩
            · have := HNN.out; rw [hcs] at this; simp at this; omega
            have hcY := hcs k (by have := HNN.out; omega)
            rw [hY] at hcY
            obtain ⟨D, hD⟩ : ∃ D, D = out2.getD V 0 := ⟨_, rfl⟩
            obtain ⟨E, hE⟩ : ∃ E, E = out2.getD Y 0 := ⟨_, rfl⟩
            have hol := HK.out.2.2.1.own.len
            have hcV := HK.out.2.2.1.own.cell V (by omega)
            have hcE := HK.out.2.2.1.own.cell Y (by omega)
            rw [← hD] at hcV
            rw [← hE] at hcE
            have hfY : wr.frozen? ⟨go, Y, none⟩ = false := HK.out.2.2.1.own.free Y
            have hD0 : 0 ≤ D ∧ D ≤ 9223372036854775800 := by
              have h1 := HK.out.2.2.2.2.1.v0
              have h2 := HK.out.2.2.2.2.2.1 V hVn
              omega
            have HDE := Lib.hid (show _ ∧ _ ∧ _ ∧ _ from ⟨hD, hE, hY, hol⟩)
            clear hcs hD hE hY hol
            by_cases hneg : E < 0
            · have hpos := HK.out.2.2.2.2.1.v0
              have hE2 : out2.getD Y 0 < 0 := by have := HDE.out.2.1; omega
              have hol := HK.out.2.2.1.own.len
              have hns := negs_set out2 Y (out2.getD V 0 + 1) (by have := HK.out.2.2.2.2.1.len; omega) hE2 (by omega)
              have hHBz : HB ≤ wr.heap.size := by have := HK.out.2.2.2.2.2.2.1.size; have := HBS.out; omega
              have SET : Hid (Sea (wr.setCell ⟨go, Y, none⟩ (.int .i64 (D + 1))) HB go co n g2 off2 m2 cap2 (out2.set Y (out2.getD V 0 + 1)) Q2 ∧ Nr (wr.setCell ⟨go, Y, none⟩ (.int .i64 (D + 1))) wo.heap.size go g2 (.slice (some ⟨bn, on, none⟩) N cn) (nearTo n r V n) ∧ Below HB (w.alloc (.cells #[.int .i64 n, .string s, .string r] 24)) (wr.setCell ⟨go, Y, none⟩ (.int .i64 (D + 1))) ∧
                  Mid (adj n r) n x (out2.set Y (out2.getD V 0 + 1)) (Q2 ++ [Y]) V (fun z => (z : Int) ∉ (nearTo n r V n).take (k + 1)) ∧ Bd n (out2.set Y (out2.getD V 0 + 1)) ∧ negs (out2.set Y (out2.getD V 0 + 1)) + (Q2 ++ [Y]).length + 1 = gk) := by
                rw [HDE.out.1]
                refine ⟨HK.out.2.2.1.set Y _, HK.out.2.2.2.1.set HK.out.2.2.1 Y _, HK.out.2.2.2.2.2.2.1.setCell (by exact HK.out.2.2.1.own.ge.1) _, ?_, HK.out.2.2.2.2.2.1.put (by omega) hVn hYn hE2 hpos, ?_⟩
                · exact Mid.weak (HK.out.2.2.2.2.1.push hYn hE2 hYa) (todo_succ (by have := HNN.out; omega) HDE.out.2.2.1)
                · have := HK.out.2.1; simp only [List.length_append, List.length_singleton]; omega
              have HQ3 := Lib.hid SET.out.1.que
              clear hns hE2 hpos hol
              go_wp2_with (at_builtin; refine wpList_appQ (wr.setCell ⟨go, Y, none⟩ (.int .i64 (D + 1))) rfl (.tmp 47) (.tmp 49) 32 rfl HB 3 Tryd.underlying32 infoInt g2 off2 m2 cap2 _ rfl HQ3.out Y wr.heap.size (by simp) rfl hQle hHBz ?_)
              intro g3 off3 cap3 w9 hq9 hg9 hn9
              have hn10 : g3 = g2 ∨ (wr.setCell ⟨go, Y, none⟩ (.int .i64 (D + 1))).heap.size ≤ g3 := by simpa using hn9
              have REL : Hid (Inner n r x V (w.alloc (.cells #[.int .i64 n, .string s, .string r] 24)) HB wo.heap.size go co gk (.slice (some ⟨bn, on, none⟩) N cn) (.slice (some ⟨g3, off3, none⟩) (m2 + 1) cap3) (.int .i64 ((k + 1 : Nat) : Int)) w9) :=
                ⟨k + 1, g3, off3, m2 + 1, cap3, _, Q2 ++ [Y], by have := HNN.out; omega, rfl, rfl, SET.out.2.2.2.2.2, SET.out.1.app hq9 hg9 hn10, SET.out.2.1.app hg9 hn10, SET.out.2.2.2.1, SET.out.2.2.2.2.1,
                  SET.out.2.2.1.trans (below_of_grown hg9 (by simpa using hHBz) (fun q hq => by cases hq; exact SET.out.1.que.ge))⟩
              clear hq9 hg9 hn9 hn10
              go_wp2
              go_roundw
              case rel => exact REL.out
              case measure => simp [intOf]; omega
            · have REL : Hid (Inner n r x V (w.alloc (.cells #[.int .i64 n, .string s, .string r] 24)) HB wo.heap.size go co gk (.slice (some ⟨bn, on, none⟩) N cn) (.slice (some ⟨g2, off2, none⟩) m2 cap2) (.int .i64 ((k + 1 : Nat) : Int)) wr) :=
                ⟨k + 1, g2, off2, m2, cap2, out2, Q2, by have := HNN.out; omega, rfl, rfl, HK.out.2.1, HK.out.2.2.1, HK.out.2.2.2.1,
                  Mid.weak (HK.out.2.2.2.2.1.skip hYn (by have := HDE.out.2.1; omega)) (todo_succ (by have := HNN.out; omega) HDE.out.2.2.1), HK.out.2.2.2.2.2.1, HK.out.2.2.2.2.2.2.1⟩
              go_wp2
              go_roundw
              case rel => exact REL.out
              case measure => simp [intOf]; omega
          · obtain rfl : k = N := by have := HK.out.1; have := HNN.out; omega
            have REL : Hid (Outer n r x (w.alloc (.cells #[.int .i64 n, .string s, .string r] 24)) HB go co (gk - 1) (.slice (some ⟨g2, off2, none⟩) m2 cap2) wr) :=
              ⟨g2, off2, m2, cap2, out2, Q2, rfl, by have := HK.out.2.1; omega, HK.out.2.2.1, Head.of HK.out.2.2.2.2.1 (fun z hz hnb ht => ht (by rw [HNN.out, List.take_length]; exact nearTo_mem hz hnb)), HK.out.2.2.2.2.2.1, HK.out.2.2.2.2.2.2.1⟩
            have hgpos : 0 < gk := by have := HK.out.2.1; omega
            go_wp2
            go_roundg (gk - 1)
            case measure => omega
            case rel => exact ⟨REL.out, by omega⟩
      · have HQ2 := Lib.hid HP.out.2
        clear HP HQ HS
        go_wp2_with fail
        refine (nearOf_any n s r V _ hVn hn HR.out).mono ?_
        rintro e w2 ⟨nv, rfl, hno, hw⟩
        have hnl := nearTo_len n r V n
        obtain ⟨ao, cn, hnv⟩ := hno.reads.len
        obtain ⟨N, hN⟩ : ∃ N, N = (nearTo n r V n).length := ⟨_, rfl⟩
        rw [← hN] at hnl hnv
        subst hnv
        have hgg := HQ2.out.lt
        have START : Hid (Inner n r x V (w.alloc (.cells #[.int .i64 n, .string s, .string r] 24)) HB wo.heap.size go co gk (.slice ao N cn) _ (.int .i64 0) w2) :=
          ⟨0, _, _, _, _, out, Q, Nat.zero_le _, rfl, rfl, HNG.out, ⟨HO.out.1.below hw (Nat.le_refl _), HQ2.out.below hw (Nat.le_refl _), HO.out.2⟩,
            ⟨hno, fun e => by have := (World.ownsRow.lt hno go e).1; have := HO.out.1.ge; omega, fun e => by have := (World.ownsRow.lt hno g e).1; omega⟩,
            Mid.weak HV.out (fun z _ => by simp), HBD.out, HX.out.trans (hw.mono (by have := HX.out.size; have := HBS.out; omega))⟩
        have HNN := Lib.hid hN
        clear hN hno hw HO HQ2 HNG HGK hgg
        go_wp2_with fail
        go_loopw [6, 30] (fun q i wr => Inner n r x V (w.alloc (.cells #[.int .i64 n, .string s, .string r] 24)) HB wo.heap.size go co gk (.slice ao N cn) q i wr) (fun _ i _ => N - (intOf i).toNat)
        case atStart => exact START.out
        case round =>
          obtain ⟨k, g2, off2, m2, cap2, out2, Q2, hk, rfl, rfl, hng2, hsea, hnr, hmid, hbd, hnx⟩ := hrel
          have hmlen := hsea.que.len
          rw [List.length_map] at hmlen
          have hQle : m2 + 1 ≤ 4398046511104 := by omega
          have HK := Lib.hid (show _ ∧ _ ∧ _ ∧ _ ∧ _ ∧ _ ∧ _ ∧ _ from ⟨hk, hng2, hsea, hnr, hmid, hbd, hnx, hmlen⟩)
          clear hk hng2 hsea hnr hmid hbd hnx hmlen
          by_cases hlt : k < N
          · obtain ⟨Y, hY, hYn, hYa⟩ := nearTo_get (n := n) (r := r) (v := V) (k := k) (by have := HNN.out; omega)
            have hreads := HK.out.2.2.2.1.own.reads
            obtain ⟨ao', cap', hv', hcs, -⟩ := hreads
            simp only [Value.slice.injEq] at hv'
            obtain ⟨rfl, -, rfl⟩ := hv'
            rcases hcs with hcs | ⟨bn, on, rfl, hcs⟩
            · have := HNN.out; rw [hcs] at this; simp at this; omega
            have hcY := hcs k (by have := HNN.out; omega)
            rw [hY] at hcY
            obtain ⟨D, hD⟩ : ∃ D, D = out2.getD V 0 := ⟨_, rfl⟩
            obtain ⟨E, hE⟩ : ∃ E, E = out2.getD Y 0 := ⟨_, rfl⟩
            have hol := HK.out.2.2.1.own.len
            have hcV := HK.out.2.2.1.own.cell V (by omega)
            have hcE := HK.out.2.2.1.own.cell Y (by omega)
            rw [← hD] at hcV
            rw [← hE] at hcE
            have hfY : wr.frozen? ⟨go, Y, none⟩ = false := HK.out.2.2.1.own.free Y
            have hD0 : 0 ≤ D ∧ D ≤ 9223372036854775800 := by
              have h1 := HK.out.2.2.2.2.1.v0
              have h2 := HK.out.2.2.2.2.2.1 V hVn
              omega
            have HDE := Lib.hid (show _ ∧ _ ∧ _ ∧ _ from ⟨hD, hE, hY, hol⟩)
            clear hcs hD hE hY hol
            by_cases hneg : E < 0
            · have hpos := HK.out.2.2.2.2.1.v0
              have hE2 : out2.getD Y 0 < 0 := by have := HDE.out.2.1; omega
              have hol := HK.out.2.2.1.own.len
              have hns := negs_set out2 Y (out2.getD V 0 + 1) (by have := HK.out.2.2.2.2.1.len; omega) hE2 (by omega)
              have hHBz : HB ≤ wr.heap.size := by have := HK.out.2.2.2.2.2.2.1.size; have := HBS.out; omega
              have SET : Hid (Sea (wr.setCell ⟨go, Y, none⟩ (.int .i64 (D + 1))) HB go co n g2 off2 m2 cap2 (out2.set Y (out2.getD V 0 + 1)) Q2 ∧ Nr (wr.setCell ⟨go, Y, none⟩ (.int .i64 (D + 1))) wo.heap.size go g2 (.slice (some ⟨bn, on, none⟩) N cn) (nearTo n r V n) ∧ Below HB (w.alloc (.cells #[.int .i64 n, .string s, .string r] 24)) (wr.setCell ⟨go, Y, none⟩ (.int .i64 (D + 1))) ∧
                  Mid (adj n r) n x (out2.set Y (out2.getD V 0 + 1)) (Q2 ++ [Y]) V (fun z => (z : Int) ∉ (nearTo n r V n).take (k + 1)) ∧ Bd n (out2.set Y (out2.getD V 0 + 1)) ∧ negs (out2.set Y (out2.getD V 0 + 1)) + (Q2 ++ [Y]).length + 1 = gk) := by
                rw [HDE.out.1]
                refine ⟨HK.out.2.2.1.set Y _, HK.out.2.2.2.1.set HK.out.2.2.1 Y _, HK.out.2.2.2.2.2.2.1.setCell (by exact HK.out.2.2.1.own.ge.1) _, ?_, HK.out.2.2.2.2.2.1.put (by omega) hVn hYn hE2 hpos, ?_⟩
                · exact Mid.weak (HK.out.2.2.2.2.1.push hYn hE2 hYa) (todo_succ (by have := HNN.out; omega) HDE.out.2.2.1)
                · have := HK.out.2.1; simp only [List.length_append, List.length_singleton]; omega
              have HQ3 := Lib.hid SET.out.1.que
              clear hns hE2 hpos hol
              go_wp2_with (at_builtin; refine wpList_appQ (wr.setCell ⟨go, Y, none⟩ (.int .i64 (D + 1))) rfl (.tmp 47) (.tmp 49) 32 rfl HB 3 Tryd.underlying32 infoInt g2 off2 m2 cap2 _ rfl HQ3.out Y wr.heap.size (by simp) rfl hQle hHBz ?_)
              intro g3 off3 cap3 w9 hq9 hg9 hn9
              have hn10 : g3 = g2 ∨ (wr.setCell ⟨go, Y, none⟩ (.int .i64 (D + 1))).heap.size ≤ g3 := by simpa using hn9
              have REL : Hid (Inner n r x V (w.alloc (.cells #[.int .i64 n, .string s, .string r] 24)) HB wo.heap.size go co gk (.slice (some ⟨bn, on, none⟩) N cn) (.slice (some ⟨g3, off3, none⟩) (m2 + 1) cap3) (.int .i64 ((k + 1 : Nat) : Int)) w9) :=
                ⟨k + 1, g3, off3, m2 + 1, cap3, _, Q2 ++ [Y], by have := HNN.out; omega, rfl, rfl, SET.out.2.2.2.2.2, SET.out.1.app hq9 hg9 hn10, SET.out.2.1.app hg9 hn10, SET.out.2.2.2.1, SET.out.2.2.2.2.1,
                  SET.out.2.2.1.trans (below_of_grown hg9 (by simpa using hHBz) (fun q hq => by cases hq; exact SET.out.1.que.ge))⟩
              clear hq9 hg9 hn9 hn10
              go_wp2
              go_roundw
              case rel => exact REL.out
              case measure => simp [intOf]; omega
            · have REL : Hid (Inner n r x V (w.alloc (.cells #[.int .i64 n, .string s, .string r] 24)) HB wo.heap.size go co gk (.slice (some ⟨bn, on, none⟩) N cn) (.slice (some ⟨g2, off2, none⟩) m2 cap2) (.int .i64 ((k + 1 : Nat) : Int)) wr) :=
                ⟨k + 1, g2, off2, m2, cap2, out2, Q2, by have := HNN.out; omega, rfl, rfl, HK.out.2.1, HK.out.2.2.1, HK.out.2.2.2.1,
                  Mid.weak (HK.out.2.2.2.2.1.skip hYn (by have := HDE.out.2.1; omega)) (todo_succ (by have := HNN.out; omega) HDE.out.2.2.1), HK.out.2.2.2.2.2.1, HK.out.2.2.2.2.2.2.1⟩
              go_wp2
              go_roundw
              case rel => exact REL.out
              case measure => simp [intOf]; omega
          · obtain rfl : k = N := by have := HK.out.1; have := HNN.out; omega
            have REL : Hid (Outer n r x (w.alloc (.cells #[.int .i64 n, .string s, .string r] 24)) HB go co (gk - 1) (.slice (some ⟨g2, off2, none⟩) m2 cap2) wr) :=
              ⟨g2, off2, m2, cap2, out2, Q2, rfl, by have := HK.out.2.1; omega, HK.out.2.2.1, Head.of HK.out.2.2.2.2.1 (fun z hz hnb ht => ht (by rw [HNN.out, List.take_length]; exact nearTo_mem hz hnb)), HK.out.2.2.2.2.2.1, HK.out.2.2.2.2.2.2.1⟩
            have hgpos : 0 < gk := by have := HK.out.2.1; omega
            go_wp2
            go_roundg (gk - 1)
            case measure => omega
            case rel => exact ⟨REL.out, by omega⟩

end Go.Proofs.YtpcnoiigbmiejaaDoor.dist

/- Distances: the reference's side. -/
namespace Go.Proofs.YtpcnoiigbmiejaaDoor.dist
set_option linter.unusedVariables false
set_option linter.unusedSimpArgs false
open Go.ChangeShapes Go.WideShapes Go.ChangeAt Go.RowKit
open Go.Proofs.YtpcnoiigbmiejaaDoor.lib Go.Proofs.YtpcnoiigbmiejaaDoor.st Go.Proofs.YtpcnoiigbmiejaaDoor.base Go.Proofs.YtpcnoiigbmiejaaDoor.near Go.Proofs.YtpcnoiigbmiejaaDoor.que

/-! the reference's levels -/
def LvS (n : Nat) (r : ByteArray) (x : Nat) (w0 : World) (HB go m i j : Nat) (wr : World) : Prop :=
  ∃ out : List Int, OwnI 3 wr HB (.slice (some ⟨go, 0, none⟩) n n) out ∧ Lv (adj n r) n x m i j out ∧ Below HB w0 wr
theorem fill_step (n k : Nat) (hk : k < n) : (List.replicate k (-1 : Int) ++ List.replicate (n - k) 0).set k (-1) = List.replicate (k + 1) (-1) ++ List.replicate (n - (k + 1)) 0 := by
  rw [List.set_append_right (h := by simp), List.length_replicate, Nat.sub_self, show n - k = (n - (k+1)) + 1 from by omega, List.replicate_succ, List.set_cons_zero, List.replicate_succ', List.append_assoc]
  rfl

set_option maxHeartbeats 3200000 in
theorem l9Distances_any (n : Nat) (s r : ByteArray) (x : Nat) (w : World) (hx : x < n) (hn : n ≤ 8) (hr : r.size = n * n) :
    Calls Tryd.prog 163 #[.agg #[.int .i64 n, .string s, .string r], .int .i64 x] w fun e w' => ∃ v out, e = .returned v ∧ OwnI 3 w' w.heap.size v out ∧ IsDist (adj n r) n x out ∧ Below w.heap.size w w' := by
  obtain ⟨i0, hi, hz0, hz1, hz2⟩ := info_parts infoInt
  obtain ⟨HB, hHB⟩ : ∃ HB, HB = w.heap.size + 1 := ⟨_, rfl⟩
  have BX : Hid (Box 24 (w.alloc (.cells #[.int .i64 n, .string s, .string r] 24)) w.heap.size n s r) := Box.new _ w _ rfl n s r
  have AW : Hid (Below w.heap.size w (w.alloc (.cells #[.int .i64 n, .string s, .string r] 24))) := (Below.refl _ _).alloc (Nat.le_refl _) _
  have HBS : Hid ((w.alloc (.cells #[.int .i64 n, .string s, .string r] 24)).heap.size = HB) := by rw [hHB]; simp [Hid]
  have HHB := Lib.hid hHB
  have HR := Lib.hid hr
  clear hr hHB
  go_enter Tryd.func163, Tryd.ntmps163
  go_wp2_with (at_make; refine wpList_make_full _ rfl _ _ 32 rfl (w.heap.size + 1) 3 i0 (.int .i64 0) 1 Tryd.underlying32 hi hz0 hz1 _ _ _ _ n rfl rfl (by omega) (by omega) ?b2 ?b3 (by simp) ?_)
  case b2 => rw [hz2]; omega
  case b3 => unfold maxLen; omega
  intro w1 hown0 hgrow0
  have hb0 : Below HB (w.alloc (.cells #[.int .i64 n, .string s, .string r] 24)) w1 := below_of_grown hgrow0 (by rw [HBS.out]; exact Nat.le_refl _) (fun k h => by cases h)
  have hown1 : OwnI 3 w1 HB (.slice (some ⟨w.heap.size + 1, 0, none⟩) n n) (List.replicate 0 (-1) ++ List.replicate (n - 0) 0) := by
    have := OwnI.made hown0; rw [HHB.out]; simpa using this
  have HST := Lib.hid (show _ ∧ _ from ⟨hown1, hb0⟩)
  obtain ⟨go, hgo⟩ : ∃ go, go = w.heap.size + 1 := ⟨_, rfl⟩
  have HGO := Lib.hid hgo
  rw [← hgo] at HST ⊢
  clear hown0 hgrow0 hb0 hown1 hgo
  go_wp2
  go_loopw [6] (fun i wr => ∃ k : Nat, k ≤ n ∧ i = .int .i64 k ∧ OwnI 3 wr HB (.slice (some ⟨go, 0, none⟩) n n) (List.replicate k (-1) ++ List.replicate (n - k) 0) ∧ Below HB (w.alloc (.cells #[.int .i64 n, .string s, .string r] 24)) wr) (fun i _ => n - (intOf i).toNat)
  case atStart => exact ⟨0, Nat.zero_le _, rfl, HST.out.1, HST.out.2⟩
  case round =>
    obtain ⟨k, hk, rfl, hown, hnx⟩ := hrel
    obtain ⟨c0, c1, c2⟩ := (BX.out.below hnx (by have := HHB.out; omega)).c
    have HO := Lib.hid (show _ ∧ _ from ⟨hown, hnx⟩)
    by_cases hlt : k < n
    · have hfz : wr.frozen? ⟨go, k, none⟩ = false := hown.free k
      have hce := hown.cell k (by simp; omega)
      have R : Hid (OwnI 3 (wr.setCell ⟨go, k, none⟩ (.int .i64 (-1))) HB (.slice (some ⟨go, 0, none⟩) n n) (List.replicate (k + 1) (-1) ++ List.replicate (n - (k + 1)) 0) ∧ Below HB (w.alloc (.cells #[.int .i64 n, .string s, .string r] 24)) (wr.setCell ⟨go, k, none⟩ (.int .i64 (-1)))) :=
        ⟨by rw [← fill_step n k hlt]; exact hown.set k (-1), hnx.setCell (by exact hown.ge.1) _⟩
      clear hown hnx
      go_wp2
      go_roundw
      case rel => exact ⟨k + 1, by omega, by go_num, R.out.1, R.out.2⟩
      case measure => simp [intOf]; omega
    · obtain rfl : n = k := by omega
      have hfz : wr.frozen? ⟨go, x, none⟩ = false := hown.free x
      have hce := hown.cell x (by simp; omega)
      have R : Hid (LvS n r x (w.alloc (.cells #[.int .i64 n, .string s, .string r] 24)) HB go 0 0 0 (wr.setCell ⟨go, x, none⟩ (.int .i64 0))) := by
        refine ⟨_, hown.set x 0, ?_, hnx.setCell (by exact hown.ge.1) _⟩
        rw [Nat.sub_self, List.replicate_zero, List.append_nil]
        exact Lv.start hx
      clear hown hnx HO hlt
      go_wp2
      go_loopw [7] (fun i wr => ∃ m : Nat, m ≤ n ∧ i = .int .i64 m ∧ LvS n r x (w.alloc (.cells #[.int .i64 n, .string s, .string r] 24)) HB go m 0 0 wr) (fun i _ => n - (intOf i).toNat)
      case atStart => exact ⟨0, Nat.zero_le _, rfl, R.out⟩
      case round =>
        obtain ⟨m, hm, rfl, hlv⟩ := hrel
        have HLV := Lib.hid hlv
        obtain ⟨out, hown, hl, hnx⟩ := hlv
        obtain ⟨c0, c1, c2⟩ := (BX.out.below hnx (by have := HHB.out; omega)).c
        have HQ := Lib.hid (show _ ∧ _ ∧ _ from ⟨hown, hl, hnx⟩)
        clear hown hl hnx R
        by_cases hmn : m < n
        · go_wp2
          go_loopw [8] (fun i wr => ∃ y : Nat, y ≤ n ∧ i = .int .i64 y ∧ LvS n r x (w.alloc (.cells #[.int .i64 n, .string s, .string r] 24)) HB go m y 0 wr) (fun i _ => n - (intOf i).toNat)
          case atStart => exact ⟨0, Nat.zero_le _, rfl, HLV.out⟩
          case round =>
            clear HQ HLV c0 c1 c2
            obtain ⟨y, hy, rfl, hlv⟩ := hrel
            have HLV := Lib.hid hlv
            obtain ⟨out, hown, hl, hnx⟩ := hlv
            obtain ⟨c0, c1, c2⟩ := (BX.out.below hnx (by have := HHB.out; omega)).c
            have HQ := Lib.hid (show _ ∧ _ ∧ _ from ⟨hown, hl, hnx⟩)
            clear hown hl hnx
            by_cases hyn : y < n
            · go_wp2
              go_loopw [9] (fun i wr => ∃ z : Nat, z ≤ n ∧ i = .int .i64 z ∧ LvS n r x (w.alloc (.cells #[.int .i64 n, .string s, .string r] 24)) HB go m y z wr) (fun i _ => n - (intOf i).toNat)
              case atStart => exact ⟨0, Nat.zero_le _, rfl, HLV.out⟩
              case round =>
                clear HQ HLV c0 c1 c2
                obtain ⟨z, hz, rfl, out, hown, hl, hnx⟩ := hrel
                obtain ⟨c0, c1, c2⟩ := (BX.out.below hnx (by have := HHB.out; omega)).c
                have hol := hl.len
                have hcy := hown.cell y (by omega)
                obtain ⟨D, hD⟩ : ∃ D, D = out.getD y 0 := ⟨_, rfl⟩
                rw [← hD] at hcy
                have HQ := Lib.hid (show _ ∧ _ ∧ _ ∧ _ ∧ _ from ⟨hown, hl, hnx, hD, hol⟩)
                clear hown hl hnx hD hol
                by_cases hzn : z < n
                · by_cases hdm : D = m
                  · subst hdm
                    have he0 : (((m : Nat) : Int) == ((m : Nat) : Int)) = true := by simp
                    obtain ⟨E, hE⟩ : ∃ E, E = out.getD z 0 := ⟨_, rfl⟩
                    have hcz := HQ.out.1.cell z (by have := HQ.out.2.2.2.2; omega)
                    rw [← hE] at hcz
                    have HE := Lib.hid hE
                    clear hE
                    by_cases hneg : E < 0
                    · have hfz : wr.frozen? ⟨go, z, none⟩ = false := HQ.out.1.free z
                      go_wp2_with fail
                      refine (l9Next_any n s r y z _ hyn hzn hn HR.out).mono ?_
                      rintro e w3 ⟨rfl, hw⟩
                      have HQ3 : Hid (OwnI 3 w3 HB (.slice (some ⟨go, 0, none⟩) n n) out ∧ Below HB (w.alloc (.cells #[.int .i64 n, .string s, .string r] 24)) w3) := ⟨HQ.out.1.below hw (Nat.le_refl _), HQ.out.2.2.1.trans (hw.mono (by have := HQ.out.2.2.1.size; have := HBS.out; omega))⟩
                      clear c0 c1 c2 hcz hcy hfz hw
                      obtain ⟨c0, c1, c2⟩ := (BX.out.below HQ3.out.2 (by have := HHB.out; omega)).c
                      have hfz : w3.frozen? ⟨go, z, none⟩ = false := HQ3.out.1.free z
                      have hcz := HQ3.out.1.cell z (by have := HQ.out.2.2.2.2; omega)
                      rw [← HE.out] at hcz
                      cases hb : adj n r y z with
                      | true =>
                        have R : Hid (LvS n r x (w.alloc (.cells #[.int .i64 n, .string s, .string r] 24)) HB go m y (z + 1) (w3.setCell ⟨go, z, none⟩ (.int .i64 ((m : Int) + 1)))) :=
                          ⟨_, HQ3.out.1.set z _, HQ.out.2.1.put hyn hzn HQ.out.2.2.2.1.symm (by have := HE.out; omega) hb, HQ3.out.2.setCell (by exact HQ3.out.1.ge.1) _⟩
                        clear hb
                        go_wp2
                        go_roundw
                        case rel => exact ⟨z + 1, by omega, by go_num, R.out⟩
                        case measure => simp [intOf]; omega
                      | false =>
                        have R : Hid (LvS n r x (w.alloc (.cells #[.int .i64 n, .string s, .string r] 24)) HB go m y (z + 1) w3) :=
                          ⟨_, HQ3.out.1, HQ.out.2.1.keep (fun h => by rw [hb] at h; cases h), HQ3.out.2⟩
                        clear hb
                        go_wp2
                        go_roundw
                        case rel => exact ⟨z + 1, by omega, by go_num, R.out⟩
                        case measure => simp [intOf]; omega
                    · have R : Hid (LvS n r x (w.alloc (.cells #[.int .i64 n, .string s, .string r] 24)) HB go m y (z + 1) wr) :=
                        ⟨_, HQ.out.1, HQ.out.2.1.keep (fun _ _ => by have := HE.out; omega), HQ.out.2.2.1⟩
                      go_wp2
                      go_roundw
                      case rel => exact ⟨z + 1, by omega, by go_num, R.out⟩
                      case measure => simp [intOf]; omega
                  · have he0 : ((D : Int) == ((m : Nat) : Int)) = false := by simpa using hdm
                    have R : Hid (LvS n r x (w.alloc (.cells #[.int .i64 n, .string s, .string r] 24)) HB go m (y + 1) 0 wr) := ⟨_, HQ.out.1, HQ.out.2.1.nextY (fun h => absurd (HQ.out.2.2.2.1.trans h) hdm), HQ.out.2.2.1⟩
                    clear hdm
                    go_wp2
                    go_roundw
                    case rel => exact ⟨y + 1, by omega, by go_num, R.out⟩
                    case measure => simp [intOf]; omega
                · have R : Hid (LvS n r x (w.alloc (.cells #[.int .i64 n, .string s, .string r] 24)) HB go m (y + 1) 0 wr) := ⟨_, HQ.out.1, HQ.out.2.1.nextY (fun _ => by omega), HQ.out.2.2.1⟩
                  go_wp2
                  go_roundw
                  case rel => exact ⟨y + 1, by omega, by go_num, R.out⟩
                  case measure => simp [intOf]; omega
            · obtain rfl : n = y := by omega
              have R : Hid (LvS n r x (w.alloc (.cells #[.int .i64 n, .string s, .string r] 24)) HB go (m + 1) 0 0 wr) := ⟨_, HQ.out.1, HQ.out.2.1.nextM, HQ.out.2.2⟩
              go_wp2
              go_roundw
              case rel => exact ⟨m + 1, by omega, by go_num, R.out⟩
              case measure => simp [intOf]; omega
        · obtain rfl : n = m := by omega
          go_wp2
          go_ret
          exact ⟨_, out, rfl, HQ.out.1.mono (by have := HHB.out; omega), HQ.out.2.1.fin, AW.out.trans (HQ.out.2.2.mono (by have := HHB.out; omega))⟩
end Go.Proofs.YtpcnoiigbmiejaaDoor.dist

/- DistanceOf in the program and in the reference. -/
namespace Go.Proofs.YtpcnoiigbmiejaaDoor.dist
set_option linter.unusedVariables false
set_option linter.unusedSimpArgs false
open Go.ChangeShapes Go.WideShapes Go.ChangeAt Go.RowKit
open Go.Proofs.YtpcnoiigbmiejaaDoor.lib Go.Proofs.YtpcnoiigbmiejaaDoor.st Go.Proofs.YtpcnoiigbmiejaaDoor.base Go.Proofs.YtpcnoiigbmiejaaDoor.near Go.Proofs.YtpcnoiigbmiejaaDoor.que

/-- what DistanceOf returns -/
noncomputable def distR (n : Int) (s r : ByteArray) (x y : Int) : Int := if elemB n s r x = true then (if elemB n s r y = true then (distL (adj n.toNat r) n.toNat x.toNat).getD y.toNat 0 else -2) else -2
theorem distR_eq {N X Y : Nat} {s r : ByteArray} {out : List Int} (hx : elemB N s r X = true) (hy : elemB N s r Y = true) (hX : X < N) (h : IsDist (adj N r) N X out) : distR N s r X Y = out.getD Y 0 := by
  unfold distR
  rw [if_pos hx, if_pos hy]
  simp only [Int.toNat_natCast]
  rw [distL_eq hX h]

set_option maxHeartbeats 800000 in
theorem implDistanceOf_any (n : Int) (s r : ByteArray) (x y : Int) (w : World) (hs : s.size ≤ 9223372036854775807) (hr : r.size ≤ 9223372036854775807) :
    Calls Tryd.prog 41 #[.agg #[.int .i64 n, .string s, .string r], .int .i64 x, .int .i64 y] w fun e w' => e = .returned (.int .i64 (distR n s r x y)) ∧ Below w.heap.size w w' := by
  have BX : Hid (Box 24 (w.alloc (.cells #[.int .i64 n, .string s, .string r] 24)) w.heap.size n s r) := Box.new _ w _ rfl n s r
  have AW : Hid (Below w.heap.size w (w.alloc (.cells #[.int .i64 n, .string s, .string r] 24))) := (Below.refl _ _).alloc (Nat.le_refl _) _
  go_enter Tryd.func41, Tryd.ntmps41
  go_wp2_with fail
  refine (hasElement_any n s r x _ hs hr).mono ?_
  rintro e w1 ⟨rfl, hw⟩
  have AW1 : Hid (Below w.heap.size w w1) := AW.out.trans (hw.mono (by simp))
  obtain ⟨c0, c1, c2⟩ := (BX.out.below hw (by simp)).c
  have BX1 := Lib.hid (BX.out.below hw (by simp))
  clear hw
  cases hb : elemB n s r x with
  | false =>
    have HE : Hid (distR n s r x y = -2) := by rw [Hid, distR, hb]; rfl
    clear hb
    go_wp2
    go_ret
    exact ⟨by rw [HE.out]; rfl, AW1.out⟩
  | true =>
    go_wp2_with fail
    refine (hasElement_any n s r y _ hs hr).mono ?_
    rintro e w2 ⟨rfl, hw⟩
    have AW2 : Hid (Below w.heap.size w w2) := AW1.out.trans (hw.mono AW1.out.size)
    clear c0 c1 c2
    obtain ⟨c0, c1, c2⟩ := (BX1.out.below hw BX1.out.lt).c
    have BX2 := Lib.hid (BX1.out.below hw BX1.out.lt)
    clear hw BX1 AW1
    cases hb2 : elemB n s r y with
    | false =>
      have HE : Hid (distR n s r x y = -2) := by rw [Hid, distR, hb, hb2]; rfl
      clear hb hb2
      go_wp2
      go_ret
      exact ⟨by rw [HE.out]; rfl, AW2.out⟩
    | true =>
      obtain ⟨N, X, rfl, rfl, hX, hN, hsN, hrN⟩ := valid_nat hb
      obtain ⟨Y, rfl, hY⟩ : ∃ Y : Nat, y = Y ∧ Y < N := by
        have h := (elemB_iff.1 hb2).2
        exact ⟨y.toNat, by omega, by omega⟩
      have HBB := Lib.hid (show _ ∧ _ ∧ _ ∧ _ from ⟨hb, hb2, hsN, hrN⟩)
      clear hb hb2 hsN hrN
      go_wp2_with fail
      refine (distancesFrom_any N s r X _ hX hN HBB.out.2.2.2).mono ?_
      rintro e w3 ⟨v, out, rfl, ho, hd, hw⟩
      have hl := hd.len
      rcases ho.shape with ⟨_, h0⟩ | ⟨go, co, rfl⟩
      · rw [h0] at hl; simp at hl; omega
      have hc := ho.cell Y (by omega)
      rw [hl] at ho ⊢
      have HE : Hid (distR N s r X Y = out.getD Y 0) := distR_eq HBB.out.1 HBB.out.2.1 hX hd
      rw [← HE.out] at hc
      have AW3 : Hid (Below w.heap.size w w3) := AW2.out.trans (hw.mono AW2.out.size)
      clear ho hd hw hl HE
      go_wp2
      go_ret
      exact ⟨rfl, AW3.out⟩

theorem implE (n : Int) (s r : ByteArray) (x y : Int) (hn : (Lit.int .i64 n).wf = true) (_ : (Lit.int .i64 x).wf = true) (_ : (Lit.int .i64 y).wf = true) : s.size + r.size ≤ 1048576 → ∀ (w : World),
    Calls Tryd.prog 41 #[.agg #[.int .i64 n, .string s, .string r], .int .i64 x, .int .i64 y] w fun e w' => e = .returned (.int .i64 (distR n s r x y)) ∧ Below w.heap.size w w' :=
  fun h w => implDistanceOf_any n s r x y w (by omega) (by omega)
end Go.Proofs.YtpcnoiigbmiejaaDoor.dist
