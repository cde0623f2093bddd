/- Several texts in one: Que, DistP, Dist, DistS, Reach. -/
import Derived.WalkKit
import Derived.ArgAppend
import Derived.Test.YtpcnoiigbmiejaaGreatDoorLib
import Derived.Test.YtpcnoiigbmiejaaGreatDoorRows
import Derived.Test.YtpcnoiigbmiejaaGreatDoorBase
import Derived.Test.YtpcnoiigbmiejaaGreatDoorNear
import Derived.Deep.LoopGhost
/- A slice of the call's own that may begin within its row: a queue: its head, what is left behind it, append of one. No program in sight. -/
namespace Go.Proofs.YtpcnoiigbmiejaaGreatDoor.que
set_option linter.unusedVariables false
set_option linter.unusedSimpArgs false
open Go.RowKit Go.Proofs.YtpcnoiigbmiejaaGreatDoor.lib

structure Que (T : TypeId) (w : World) (B g off m cap : Nat) (l : List Int) : Prop where
  ge : B ≤ g
  len : m = l.length
  le : m ≤ cap
  max : cap ≤ maxLen
  blk : ∃ cur, w.heap[g]? = some (.cells cur T (0, 0)) ∧ off + cap ≤ cur.size ∧ ∀ i, i < l.length → cur[off + i]? = some (.int .i64 (l.getD i 0))

variable {T : TypeId} {w w' : World} {B g off m cap : Nat} {l : List Int}
theorem Que.lt (h : Que T w B g off m cap l) : g < w.heap.size := by
  obtain ⟨cur, hc, _⟩ := h.blk
  exact (Array.getElem?_eq_some_iff.1 hc).1
theorem Que.same (h : Que T w B g off m cap l) (hb : w'.heap[g]? = w.heap[g]?) : Que T w' B g off m cap l := by
  obtain ⟨cur, hc, r⟩ := h.blk
  exact ⟨h.ge, h.len, h.le, h.max, cur, by rw [hb]; exact hc, r⟩
theorem Que.kept {row : Option Nat} (h : Que T w B g off m cap l) (hg : w.grownBy w' row) (hne : row ≠ some g) : Que T w' B g off m cap l :=
  h.same (hg.block g h.lt (fun e => hne e.symm))
theorem Que.below {C : Nat} (h : Que T w B g off m cap l) (hb : Below C w w') (hC : w.heap.size ≤ C) : Que T w' B g off m cap l :=
  h.same (hb.block g (Nat.lt_of_lt_of_le h.lt hC))
theorem Que.alloc (h : Que T w B g off m cap l) (o : Obj) : Que T (w.alloc o) B g off m cap l := h.kept (World.grownBy_alloc w o none) (by simp)
theorem Que.cell (h : Que T w B g off m cap l) (i : Nat) (hi : i < l.length) : w.cell? ⟨g, off + i, none⟩ = some (.int .i64 (l.getD i 0)) := by
  obtain ⟨cur, hc, _, hcell⟩ := h.blk
  have := hcell i hi
  simp [World.cell?, hc, this]
theorem Que.head {x : Int} {r : List Int} (h : Que T w B g off m cap (x :: r)) : w.cell? ⟨g, off, none⟩ = some (.int .i64 x) := by
  have := h.cell 0 (by simp)
  simpa using this
theorem Que.new (hB : B ≤ w.heap.size) (x : Int) (H : Nat) (hH : w.heap.size = H) : Que T (w.alloc (.cells #[.int .i64 x] T)) B H 0 1 1 [x] := by
  subst hH
  refine ⟨hB, rfl, Nat.le_refl _, by decide, _, heap_alloc_new w _, by simp, fun i hi => ?_⟩
  simp at hi
  subst hi
  rfl
theorem Que.pop {x : Int} {r : List Int} (h : Que T w B g off m cap (x :: r)) : Que T w B g (off + 1) (m - 1) (cap - 1) r := by
  obtain ⟨cur, hc, hs, hcell⟩ := h.blk
  have h1 := h.len
  have h2 := h.le
  have h3 := h.max
  simp only [List.length_cons] at h1
  refine ⟨h.ge, by omega, by omega, by omega, cur, hc, by omega, fun i hi => ?_⟩
  have := hcell (i + 1) (by simp; omega)
  rw [show off + (i + 1) = off + 1 + i from by omega] at this
  simpa using this
theorem Que.of_own {n : Nat} (h : OwnI T w B (.slice (some ⟨g, 0, none⟩) n cap) l) : Que T w B g 0 n cap l := by
  have hn := h.len
  rcases h.2 with ⟨h', _⟩ | ⟨g', cap', cur, h', hb, hh, hnc, hcm, hcs, ht⟩
  · simp at h'
  · simp only [Value.slice.injEq, Option.some.injEq, Addr.mk.injEq] at h'
    obtain ⟨⟨rfl, _⟩, _, rfl⟩ := h'
    refine ⟨hb, hn, by omega, hcm, cur, hh, by omega, fun i hi => ?_⟩
    have hx := ivs_get l i hi
    rw [Nat.zero_add]
    have e : (cur.toList.take (l.length * 1))[i]? = cur.toList[i]? := by rw [List.getElem?_take, if_pos (by omega)]
    rw [ht] at e
    rw [← Array.getElem?_toList, ← e]; exact hx

end Go.Proofs.YtpcnoiigbmiejaaGreatDoor.que

/- Distances: what both searches compute, no program in sight. -/
namespace Go.Proofs.YtpcnoiigbmiejaaGreatDoor.dist
set_option linter.unusedVariables false
set_option linter.unusedSimpArgs false
/-- out has the distances from x -/
structure IsDist (nb : Nat → Nat → Bool) (n x : Nat) (out : List Int) : Prop where
  len : out.length = n
  lo : ∀ y, y < n → -1 ≤ out.getD y 0
  zero : ∀ y, y < n → (out.getD y 0 = 0 ↔ y = x)
  pred : ∀ y, y < n → 0 < out.getD y 0 → ∃ z, z < n ∧ nb z y = true ∧ out.getD z 0 = out.getD y 0 - 1
  next : ∀ y z, y < n → z < n → 0 ≤ out.getD y 0 → nb y z = true → 0 ≤ out.getD z 0 ∧ out.getD z 0 ≤ out.getD y 0 + 1

theorem IsDist.le {nb : Nat → Nat → Bool} {n x : Nat} (hx : x < n) {a b : List Int} (ha : IsDist nb n x a) (hb : IsDist nb n x b) :
    ∀ (d : Nat) (y : Nat), y < n → a.getD y 0 = d → 0 ≤ b.getD y 0 ∧ b.getD y 0 ≤ d
  | 0, y, hy, h => by
    have : y = x := (ha.zero y hy).1 (by simpa using h)
    subst this
    have := (hb.zero y hy).2 rfl
    omega
  | d + 1, y, hy, h => by
    obtain ⟨z, hz, hn, he⟩ := ha.pred y hy (by omega)
    obtain ⟨h1, h2⟩ := IsDist.le hx ha hb d z hz (by omega)
    have := hb.next z y hz hy h1 hn
    omega
/-- the program's search: v is at hand, 'todo' what is next to it and not seen yet -/
structure Mid (nb : Nat → Nat → Bool) (n x : Nat) (out : List Int) (queue : List Nat) (v : Nat) (todo : Nat → Prop) : Prop where
  len : out.length = n
  lo : ∀ y, y < n → -1 ≤ out.getD y 0
  zero : ∀ y, y < n → (out.getD y 0 = 0 ↔ y = x)
  pred : ∀ y, y < n → 0 < out.getD y 0 → ∃ z, z < n ∧ nb z y = true ∧ out.getD z 0 = out.getD y 0 - 1
  vn : v < n
  v0 : 0 ≤ out.getD v 0
  qin : ∀ q ∈ queue, q < n ∧ out.getD v 0 ≤ out.getD q 0 ∧ out.getD q 0 ≤ out.getD v 0 + 1
  sorted : queue.Pairwise fun p q => out.getD p 0 ≤ out.getD q 0
  top : ∀ y, y < n → out.getD y 0 ≤ out.getD v 0 + 1
  closed : ∀ y, y < n → 0 ≤ out.getD y 0 → y ∉ queue → y ≠ v → ∀ z, z < n → nb y z = true → 0 ≤ out.getD z 0 ∧ out.getD z 0 ≤ out.getD y 0 + 1
  done : ∀ z, z < n → nb v z = true → ¬ todo z → 0 ≤ out.getD z 0

theorem getD_set (l : List Int) (i j : Nat) (v : Int) (h : i < l.length) : (l.set i v).getD j 0 = if j = i then v else l.getD j 0 := by
  simp only [List.getD_eq_getElem?_getD, List.getElem?_set]
  by_cases e : i = j
  · subst e; simp [h]
  · rw [if_neg e, if_neg (fun h => e h.symm)]

variable {nb : Nat → Nat → Bool} {n x : Nat} {out : List Int} {queue : List Nat} {v : Nat} {todo : Nat → Prop}

theorem Mid.skip {y : Nat} (h : Mid nb n x out queue v todo) (hy : y < n) (h0 : 0 ≤ out.getD y 0) : Mid nb n x out queue v (fun z => todo z ∧ z ≠ y) :=
  ⟨h.len, h.lo, h.zero, h.pred, h.vn, h.v0, h.qin, h.sorted, h.top, h.closed, fun z hz hn ht => by
    by_cases e : z = y
    · subst e; exact h0
    · exact h.done z hz hn (fun t => ht ⟨t, e⟩)⟩
theorem Mid.push {y : Nat} (h : Mid nb n x out queue v todo) (hy : y < n) (h0 : out.getD y 0 < 0) (hnb : nb v y = true) :
    Mid nb n x (out.set y (out.getD v 0 + 1)) (queue ++ [y]) v (fun z => todo z ∧ z ≠ y) := by
  have hyl : y < out.length := by rw [h.len]; exact hy
  have g := fun j => getD_set out y j (out.getD v 0 + 1) hyl
  have hvy : v ≠ y := fun e => by have := h.v0; rw [e] at this; omega
  have hxy : x ≠ y := fun e => by
    have := (h.zero y hy).2 e.symm
    omega
  have gv : (out.set y (out.getD v 0 + 1)).getD v 0 = out.getD v 0 := by rw [g, if_neg hvy]
  have v0 := h.v0
  refine ⟨by rw [List.length_set]; exact h.len, fun z hz => ?_, fun z hz => ?_, fun z hz hp => ?_, h.vn, by rw [gv]; exact h.v0, fun q hq => ?_, ?_, fun z hz => ?_, fun z hz hz0 hnq hzv u hu hzu => ?_, fun z hz hn ht => ?_⟩
  · rw [g]; split
    · omega
    · exact h.lo z hz
  · rw [g]; split
    · rename_i e; subst e; constructor
      · intro e; omega
      · intro e; exact absurd e.symm hxy
    · exact h.zero z hz
  · rw [g] at hp ⊢
    split at hp
    · rename_i e; subst e
      refine ⟨v, h.vn, hnb, ?_⟩
      rw [if_pos rfl, gv]; omega
    · rename_i e
      obtain ⟨u, hu, hun, hue⟩ := h.pred z hz hp
      refine ⟨u, hu, hun, ?_⟩
      rw [if_neg e, g, if_neg ?_]
      · exact hue
      · intro e2; subst e2; omega
  · rw [gv]
    rcases List.mem_append.1 hq with hq | hq
    · have := h.qin q hq
      rw [g]; split
      · exact ⟨this.1, by omega, by omega⟩
      · exact this
    · rw [List.mem_singleton.1 hq, g, if_pos rfl]
      exact ⟨hy, by omega, by omega⟩
  · rw [List.pairwise_append]
    refine ⟨?_, List.pairwise_singleton _ _, fun p hp q hq => ?_⟩
    · refine h.sorted.imp_of_mem fun {p q} hp hq hpq => ?_
      have h1 := h.qin p hp
      have h2 := h.qin q hq
      rw [g, g, if_neg (fun e => by subst e; omega), if_neg (fun e => by subst e; omega)]
      exact hpq
    · rw [List.mem_singleton.1 hq, g, g, if_pos rfl]
      have h1 := h.qin p hp
      rw [if_neg (fun e => by subst e; omega)]
      exact h1.2.2
  · rw [gv, g]; split
    · omega
    · exact h.top z hz
  · rw [g] at hz0
    have hzq : z ∉ queue := fun hh => hnq (List.mem_append.2 (.inl hh))
    have hzy : z ≠ y := fun e => hnq (List.mem_append.2 (.inr (by simp [e])))
    rw [if_neg hzy] at hz0
    have := h.closed z hz hz0 hzq hzv u hu hzu
    rw [g, g, if_neg hzy, if_neg (fun e => by subst e; omega)]
    exact this
  · rw [g]; split
    · omega
    · rename_i e; exact h.done z hz hn (fun t => ht ⟨t, e⟩)

/-- v is done: the next one of the queue -/
theorem Mid.pop {q : Nat} {rest : List Nat} (h : Mid nb n x out (q :: rest) v todo) (ht : ∀ z, z < n → nb v z = true → ¬ todo z) :
    Mid nb n x out rest q (fun _ => True) := by
  obtain ⟨hq1, hq2, hq3⟩ := h.qin q List.mem_cons_self
  have hs := List.pairwise_cons.1 h.sorted
  have v0 := h.v0
  refine ⟨h.len, h.lo, h.zero, h.pred, hq1, by omega, fun p hp => ?_, hs.2, fun y hy => ?_, fun y hy h0 hnq hyq z hz hn => ?_, fun z hz hn hf => absurd trivial hf⟩
  · have := h.qin p (List.mem_cons_of_mem _ hp)
    exact ⟨this.1, hs.1 p hp, by omega⟩
  · have := h.top y hy; omega
  · by_cases e : y = v
    · subst e
      have h1 := h.done z hz hn (ht z hz hn)
      exact ⟨h1, h.top z hz⟩
    · refine h.closed y hy h0 (fun hm => ?_) e z hz hn
      rcases List.mem_cons.1 hm with r | r
      · exact hyq r
      · exact hnq r
theorem Mid.fin (h : Mid nb n x out [] v todo) (ht : ∀ z, z < n → nb v z = true → ¬ todo z) : IsDist nb n x out := by
  refine ⟨h.len, h.lo, h.zero, h.pred, fun y z hy hz h0 hn => ?_⟩
  by_cases e : y = v
  · subst e
    exact ⟨h.done z hz hn (ht z hz hn), h.top z hz⟩
  · exact h.closed y hy h0 (by simp) e z hz hn
/-- at the start -/
theorem Mid.start (hx : x < n) : Mid nb n x ((List.replicate n (-1 : Int)).set x 0) [] x (fun _ => True) := by
  have hl : x < (List.replicate n (-1 : Int)).length := by simpa using hx
  have g : ∀ j, j < n → ((List.replicate n (-1 : Int)).set x 0).getD j 0 = if j = x then 0 else -1 := fun j hj => by
    rw [getD_set _ _ _ _ hl]
    split
    · rfl
    · simp [List.getD_eq_getElem?_getD, hj]
  refine ⟨by simp, fun y hy => ?_, fun y hy => ?_, fun y hy hp => ?_, hx, ?_, fun q hq => (by cases hq), List.Pairwise.nil, fun y hy => ?_, fun y hy h0 _ hv => ?_, fun z hz hn hf => absurd trivial hf⟩
  · rw [g y hy]; split <;> omega
  · rw [g y hy]; split <;> simp [*]
  · rw [g y hy] at hp; split at hp <;> omega
  · rw [g x hx, if_pos rfl]; exact Int.le_refl _
  · rw [g y hy, g x hx, if_pos rfl]; split <;> omega
  · rw [g y hy, if_neg hv] at h0; omega

/-- the reference's search: level m, element i of it, what is next to it up to j -/
structure Lv (nb : Nat → Nat → Bool) (n x : Nat) (m i j : Nat) (out : List Int) : Prop where
  len : out.length = n
  lo : ∀ y, y < n → -1 ≤ out.getD y 0
  zero : ∀ y, y < n → (out.getD y 0 = 0 ↔ y = x)
  pred : ∀ y, y < n → 0 < out.getD y 0 → ∃ z, z < n ∧ nb z y = true ∧ out.getD z 0 = out.getD y 0 - 1
  top : ∀ y, y < n → out.getD y 0 ≤ m + 1
  closed : ∀ y, y < n → 0 ≤ out.getD y 0 → (out.getD y 0 < m ∨ (out.getD y 0 = m ∧ y < i)) → ∀ z, z < n → nb y z = true → 0 ≤ out.getD z 0 ∧ out.getD z 0 ≤ out.getD y 0 + 1
  cur : out.getD i 0 = m → ∀ z, z < j → z < n → nb i z = true → 0 ≤ out.getD z 0

theorem Lv.start (hx : x < n) : Lv nb n x 0 0 0 ((List.replicate n (-1 : Int)).set x 0) := by
  have h := Mid.start (nb := nb) hx
  refine ⟨h.len, h.lo, h.zero, h.pred, fun y hy => ?_, fun y hy h0 hc => ?_, fun _ z hz => (by omega)⟩
  · have h1 := h.top y hy
    have h2 := (h.zero x hx).2 rfl
    rw [h2] at h1; simpa using h1
  · rcases hc with hc | hc <;> omega
variable {m i j : Nat}
theorem Lv.keep (h : Lv nb n x m i j out) (hk : nb i j = true → j < n → 0 ≤ out.getD j 0) : Lv nb n x m i (j + 1) out := by
  refine ⟨h.len, h.lo, h.zero, h.pred, h.top, h.closed, fun hi z hz hzn hn => ?_⟩
  by_cases e : z = j
  · subst e; exact hk hn hzn
  · exact h.cur hi z (by omega) hzn hn
theorem Lv.put (h : Lv nb n x m i j out) (hi : i < n) (hj : j < n) (him : out.getD i 0 = m) (h0 : out.getD j 0 < 0) (hnb : nb i j = true) : Lv nb n x m i (j + 1) (out.set j (m + 1)) := by
  have hjl : j < out.length := by rw [h.len]; exact hj
  have g := fun k => getD_set out j k ((m : Int) + 1) hjl
  have hij : i ≠ j := fun e => by rw [e] at him; omega
  have gi : (out.set j ((m : Int) + 1)).getD i 0 = m := by rw [g, if_neg hij]; exact him
  have hxj : x ≠ j := fun e => by have := (h.zero j hj).2 e.symm; omega
  refine ⟨by rw [List.length_set]; exact h.len, fun y hy => ?_, fun y hy => ?_, fun y hy hp => ?_, fun y hy => ?_, fun y hy h1 hc z hz hn => ?_, fun _ z hz hzn hn => ?_⟩
  · rw [g]; split
    · omega
    · exact h.lo y hy
  · rw [g]; split
    · rename_i e; subst e; constructor
      · intro e; omega
      · intro e; exact absurd e.symm hxj
    · exact h.zero y hy
  · rw [g] at hp ⊢
    split at hp
    · rename_i e; subst e
      exact ⟨i, hi, hnb, by rw [if_pos rfl, gi]; omega⟩
    · rename_i e
      obtain ⟨u, hu, hun, hue⟩ := h.pred y hy hp
      refine ⟨u, hu, hun, ?_⟩
      rw [if_neg e, g, if_neg (fun e2 => by subst e2; omega)]
      exact hue
  · rw [g]; split
    · exact Int.le_refl _
    · exact h.top y hy
  · rw [g] at h1 hc
    split at h1
    · rename_i e; subst e; simp only [if_true] at hc; rcases hc with hc | hc <;> omega
    · rename_i e
      rw [if_neg e] at hc
      have := h.closed y hy h1 hc z hz hn
      rw [g, g y, if_neg e, if_neg (fun e2 => by subst e2; omega)]
      exact this
  · rw [g]; split
    · omega
    · rename_i e; exact h.cur him z (by omega) hzn hn
theorem nodup_len {α : Type} [DecidableEq α] : ∀ (l1 l2 : List α), l1.Nodup → (∀ a ∈ l1, a ∈ l2) → l1.length ≤ l2.length
  | [], _, _, _ => Nat.zero_le _
  | a :: l1, l2, hn, hs => by
    have hn' := List.nodup_cons.1 hn
    have ha := hs a List.mem_cons_self
    have := nodup_len l1 (l2.erase a) hn'.2 (fun b hb => (List.mem_erase_of_ne (fun e => hn'.1 (by rw [← e]; exact hb))).2 (hs b (List.mem_cons_of_mem _ hb)))
    rw [List.length_erase_of_mem ha] at this
    have : 0 < l2.length := List.length_pos_of_mem ha
    simp only [List.length_cons]; omega
theorem Lv.chain (h : Lv nb n x m i j out) : ∀ (k y : Nat), y < n → out.getD y 0 = k → ∀ t, t ≤ k → (t : Int) ∈ out
  | k, y, hy, he, t, ht => by
    by_cases e : t = k
    · subst e
      have hl : y < out.length := by rw [h.len]; exact hy
      rw [← he, List.getD_eq_getElem?_getD, List.getElem?_eq_getElem hl]
      exact List.getElem_mem hl
    · obtain ⟨z, hz, _, hze⟩ := h.pred y hy (by omega)
      cases k with
      | zero => omega
      | succ k => exact h.chain k z hz (by omega) t (by omega)
theorem Lv.small (h : Lv nb n x m i j out) (y : Nat) (hy : y < n) : out.getD y 0 < n := by
  by_cases h0 : out.getD y 0 < 0
  · omega
  have hc := h.chain (out.getD y 0).toNat y hy (by omega)
  have hl := nodup_len ((List.range ((out.getD y 0).toNat + 1)).map (fun t : Nat => (t : Int))) out (by
    rw [List.nodup_iff_pairwise_ne, List.pairwise_map]
    exact (List.nodup_iff_pairwise_ne.1 List.nodup_range).imp (fun hab e => hab (by omega))) (fun a ha => by
    obtain ⟨t, ht, rfl⟩ := List.mem_map.1 ha
    exact hc t (by have := List.mem_range.1 ht; omega))
  rw [List.length_map, List.length_range, h.len] at hl
  omega
theorem Lv.fin (h : Lv nb n x n 0 0 out) : IsDist nb n x out :=
  ⟨h.len, h.lo, h.zero, h.pred, fun y z hy hz h0 hn => h.closed y hy h0 (.inl (h.small y hy)) z hz hn⟩

/-- the distances -/
noncomputable def distL (nb : Nat → Nat → Bool) (n x : Nat) : List Int := Classical.epsilon (IsDist nb n x)
end Go.Proofs.YtpcnoiigbmiejaaGreatDoor.dist

/- Distances: distancesFrom, l9Distances, DistanceOf in the program and in the reference. -/
namespace Go.Proofs.YtpcnoiigbmiejaaGreatDoor.dist
set_option linter.unusedVariables false
set_option linter.unusedSimpArgs false
open Go.ChangeShapes Go.WideShapes Go.ChangeAt Go.RowKit
open Go.Proofs.YtpcnoiigbmiejaaGreatDoor.lib Go.Proofs.YtpcnoiigbmiejaaGreatDoor.st Go.Proofs.YtpcnoiigbmiejaaGreatDoor.base Go.Proofs.YtpcnoiigbmiejaaGreatDoor.near Go.Proofs.YtpcnoiigbmiejaaGreatDoor.que

set_option maxHeartbeats 1600000 in
theorem besides_any (n : Nat) (w : World) (hn : n ≤ 4398046511) :
    Calls Tryz.prog 93 #[.int .i64 n] w fun e w' => ∃ v, e = .returned v ∧ OwnI 3 w' w.heap.size v (List.replicate n (-1)) ∧ Below w.heap.size w w' := by
  have he : Hid (OwnI 3 (w.alloc (.cells #[] 3)) w.heap.size (.slice (some ⟨w.heap.size, 0, none⟩) 0 0) []) := emptyRow _ _ _ _ rfl (Nat.le_refl _)
  have hb0 : Hid (Below w.heap.size w (w.alloc (.cells #[] 3))) := (Below.refl _ _).alloc (Nat.le_refl _) _
  go_enter Tryz.func93, Tryz.ntmps93
  go_wp2
  go_loopw [3, 6] (fun v i wr => ∃ k : Nat, k ≤ n ∧ i = .int .i64 k ∧ OwnI 3 wr w.heap.size v (List.replicate k (-1)) ∧ Below w.heap.size w wr) (fun _ i _ => n - (intOf i).toNat)
  case atStart => exact ⟨0, Nat.zero_le _, rfl, he.out, hb0.out⟩
  case round =>
    obtain ⟨k, hk, rfl, hown, hnx⟩ := hrel
    have HO := Lib.hid hown
    have HX := Lib.hid hnx
    clear hown hnx
    by_cases hlt : k < n
    · have hsz : w.heap.size ≤ wr.heap.size := HX.out.size
      go_wp2_with (at_builtin; refine wpList_app1 wr rfl (.tmp 8) (.tmp 9) 29 rfl w.heap.size 3 (.int .i64 0) 8 Tryz.underlying29 infoInt rfl (by decide) _ _ _ (.int .i64 (-1)) rfl HO.out wr.heap.size rfl rfl rfl (by rw [List.length_replicate]; omega) hsz ?_)
      intro g cap' w9 hown9 hgr
      have R : Hid (OwnI 3 w9 w.heap.size (.slice (some ⟨g, 0, none⟩) (k + 1) cap') (List.replicate (k + 1) (-1)) ∧ Below w.heap.size w w9) :=
        ⟨by rw [List.replicate_succ']; unfold OwnI; rw [List.length_append, ivs_append, List.length_replicate]; exact hown9, HX.out.trans (hgr.below HO.out hsz)⟩
      clear hown9 hgr hsz
      go_wp2
      go_roundw
      case rel => exact ⟨k + 1, by omega, by go_num, R.out.1, R.out.2⟩
      case measure => simp [intOf]; omega
    · obtain rfl : k = n := by omega
      go_wp2
      go_ret
      exact ⟨_, rfl, HO.out, HX.out⟩

def negs (out : List Int) : Nat := (out.filter (fun d => decide (d < 0))).length
theorem negs_set (out : List Int) (y : Nat) (d : Int) (hy : y < out.length) (h : out.getD y 0 < 0) (hd : 0 ≤ d) : negs (out.set y d) + 1 = negs out := by
  induction out generalizing y with
  | nil => simp at hy
  | cons a l ih =>
    cases y with
    | zero =>
      simp at h
      simp only [List.set_cons_zero, negs, List.filter_cons]
      rw [if_neg (by simp; omega), if_pos (by simpa using h)]
      simp
    | succ y =>
      simp at hy h
      have := ih y hy (by simpa using h)
      simp only [List.set_cons_succ, negs, List.filter_cons] at this ⊢
      split
      · simp only [List.length_cons]; omega
      · exact this
theorem negs_start (n x : Nat) (hx : x < n) : negs ((List.replicate n (-1 : Int)).set x 0) + 1 = n := by
  rw [negs_set _ _ _ (by simpa using hx) (by simp [List.getD_eq_getElem?_getD, hx]) (Int.le_refl _)]
  simp [negs]

/-- no distance is too great -/
def Bd (n : Nat) (out : List Int) : Prop := ∀ y, y < n → out.getD y 0 + negs out + 1 ≤ n
theorem Bd.put {n : Nat} {out : List Int} (h : Bd n out) (hl : out.length = n) {v y : Nat} (hv : v < n) (hy : y < n) (h0 : out.getD y 0 < 0) (hv0 : 0 ≤ out.getD v 0) : Bd n (out.set y (out.getD v 0 + 1)) := by
  intro z hz
  have h1 := negs_set out y (out.getD v 0 + 1) (by omega) h0 (by omega)
  rw [getD_set _ _ _ _ (by omega)]
  have h2 := h v hv
  have h3 := h z hz
  split <;> omega
theorem Bd.start {n x : Nat} (hx : x < n) : Bd n ((List.replicate n (-1 : Int)).set x 0) := by
  intro z hz
  have h1 := negs_start n x hx
  rw [getD_set _ _ _ _ (by simpa using hx)]
  split
  · omega
  · simp only [List.getD_eq_getElem?_getD, List.getElem?_replicate, if_pos hz, Option.getD_some]; omega

theorem Mid.weak {nb : Nat → Nat → Bool} {n x : Nat} {out : List Int} {queue : List Nat} {v : Nat} {todo todo2 : Nat → Prop} (h : Mid nb n x out queue v todo) (ht : ∀ z, todo z → todo2 z) : Mid nb n x out queue v todo2 :=
  ⟨h.len, h.lo, h.zero, h.pred, h.vn, h.v0, h.qin, h.sorted, h.top, h.closed, fun z hz hn h2 => h.done z hz hn (fun t => h2 (ht z t))⟩

/-- at the head of the search's loop -/
def Head (nb : Nat → Nat → Bool) (n x : Nat) (out : List Int) : List Nat → Prop
  | [] => IsDist nb n x out
  | q :: rest => Mid nb n x out rest q (fun _ => True)
theorem Head.of {nb : Nat → Nat → Bool} {n x : Nat} {out : List Int} {queue : List Nat} {v : Nat} {todo : Nat → Prop} (h : Mid nb n x out queue v todo) (ht : ∀ z, z < n → nb v z = true → ¬ todo z) : Head nb n x out queue := by
  cases queue with
  | nil => exact h.fin ht
  | cons q rest => exact h.pop ht

/-- what the search holds: the distances so far, the queue -/
structure Sea (w : World) (HB go co n g off m cap : Nat) (out : List Int) (Q : List Nat) : Prop where
  own : OwnI 3 w HB (.slice (some ⟨go, 0, none⟩) n co) out
  que : Que 3 w HB g off m cap (Q.map fun q : Nat => (q : Int))
  ne : go ≠ g
structure Nr (w : World) (HN go g : Nat) (nv : Value) (L : List Int) : Prop where
  own : OwnI 3 w HN nv L
  n1 : nv.ownBlock ≠ some go
  n2 : nv.ownBlock ≠ some g

variable {w w' : World} {HB HN go co n g off m cap : Nat} {out : List Int} {Q : List Nat} {nv : Value} {L : List Int}
theorem Sea.below {C : Nat} (h : Sea w HB go co n g off m cap out Q) (hb : Below C w w') (hC : w.heap.size ≤ C) : Sea w' HB go co n g off m cap out Q :=
  ⟨h.own.below hb hC, h.que.below hb hC, h.ne⟩
theorem Sea.set (h : Sea w HB go co n g off m cap out Q) (y : Nat) (d : Int) : Sea (w.setCell ⟨go, y, none⟩ (.int .i64 d)) HB go co n g off m cap (out.set y d) Q :=
  ⟨h.own.set y d, h.que.kept (h.own.setGrown y d) (fun e => h.ne (by simpa using e)), h.ne⟩
theorem Nr.set (hn : Nr w HN go g nv L) (h : Sea w HB go co n g off m cap out Q) (y : Nat) (d : Int) : Nr (w.setCell ⟨go, y, none⟩ (.int .i64 d)) HN go g nv L :=
  ⟨World.ownsRow.kept hn.own (h.own.setGrown y d) (.inr hn.n1), hn.n1, hn.n2⟩
theorem Sea.app {g' off' m' cap' y : Nat} (h : Sea w HB go co n g off m cap out Q) (hq : Que 3 w' HB g' off' m' cap' (Q.map (fun q : Nat => (q : Int)) ++ [(y : Int)])) (hg : w.grownBy w' (some g)) (hn : g' = g ∨ w.heap.size ≤ g') :
    Sea w' HB go co n g' off' m' cap' out (Q ++ [y]) := by
  refine ⟨World.ownsRow.kept h.own hg (.inr fun e => h.ne (by simpa [Value.ownBlock] using e)), by rw [List.map_append]; exact hq, ?_⟩
  rcases hn with rfl | hn
  · exact h.ne
  · have := h.own.ge; omega
theorem Nr.app {g' : Nat} (h : Nr w HN go g nv L) (hg : w.grownBy w' (some g)) (hn : g' = g ∨ w.heap.size ≤ g') : Nr w' HN go g' nv L := by
  refine ⟨World.ownsRow.kept h.own hg (.inr h.n2), h.n1, ?_⟩
  rcases hn with rfl | hn
  · exact h.n2
  · intro e
    have := (World.ownsRow.lt h.own g' e).2; omega

end Go.Proofs.YtpcnoiigbmiejaaGreatDoor.dist

/- Distances: the reference's side. -/
namespace Go.Proofs.YtpcnoiigbmiejaaGreatDoor.dist
set_option linter.unusedVariables false
set_option linter.unusedSimpArgs false
open Go.ChangeShapes Go.WideShapes Go.ChangeAt Go.RowKit
open Go.Proofs.YtpcnoiigbmiejaaGreatDoor.lib Go.Proofs.YtpcnoiigbmiejaaGreatDoor.st Go.Proofs.YtpcnoiigbmiejaaGreatDoor.base Go.Proofs.YtpcnoiigbmiejaaGreatDoor.near Go.Proofs.YtpcnoiigbmiejaaGreatDoor.que

/-! the reference's levels -/
end Go.Proofs.YtpcnoiigbmiejaaGreatDoor.dist

/- Ways and distances: what holds of them, no program in sight. -/
namespace Go.Proofs.YtpcnoiigbmiejaaGreatDoor.dist
set_option linter.unusedVariables false
set_option linter.unusedSimpArgs false
/-- y is reached from x in k steps below n -/
def RK (nb : Nat → Nat → Bool) (n x : Nat) : Nat → Nat → Prop
  | 0, y => y = x
  | k + 1, y => ∃ z, z < n ∧ RK nb n x k z ∧ nb z y = true

variable {nb : Nat → Nat → Bool} {n x : Nat}
open Classical in
open Classical in
/-- the distance of two -/
noncomputable def D (nb : Nat → Nat → Bool) (n x y : Nat) : Int := (distL nb n x).getD y 0
theorem RK.lt : ∀ {k y : Nat}, x < n → (∀ a b, nb a b = true → b < n) → RK nb n x k y → y < n
  | 0, _, hx, _, h => by rw [h]; exact hx
  | _ + 1, _, _, hb, h => by
    obtain ⟨_, _, _, h⟩ := h
    exact hb _ _ h
end Go.Proofs.YtpcnoiigbmiejaaGreatDoor.dist
