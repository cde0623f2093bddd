/- Distances: what both searches compute, no program in sight. -/
import Derived.WalkKit
namespace Go.Proofs.YtlnmebjbinmeiaaDoor.dist
set_option linter.unusedVariables false
set_option linter.unusedSimpArgs false
/-- out has the distances from x -/
structure IsDist (nb : Nat → Nat → Bool) (n x : Nat) (out : List Int) : Prop where
  len : out.length = n
  lo : ∀ y, y < n → -1 ≤ out.getD y 0
  zero : ∀ y, y < n → (out.getD y 0 = 0 ↔ y = x)
  pred : ∀ y, y < n → 0 < out.getD y 0 → ∃ z, z < n ∧ nb z y = true ∧ out.getD z 0 = out.getD y 0 - 1
  next : ∀ y z, y < n → z < n → 0 ≤ out.getD y 0 → nb y z = true → 0 ≤ out.getD z 0 ∧ out.getD z 0 ≤ out.getD y 0 + 1

theorem IsDist.le {nb : Nat → Nat → Bool} {n x : Nat} (hx : x < n) {a b : List Int} (ha : IsDist nb n x a) (hb : IsDist nb n x b) :
    ∀ (d : Nat) (y : Nat), y < n → a.getD y 0 = d → 0 ≤ b.getD y 0 ∧ b.getD y 0 ≤ d
  | 0, y, hy, h => by
    have : y = x := (ha.zero y hy).1 (by simpa using h)
    subst this
    have := (hb.zero y hy).2 rfl
    omega
  | d + 1, y, hy, h => by
    obtain ⟨z, hz, hn, he⟩ := ha.pred y hy (by omega)
    obtain ⟨h1, h2⟩ := IsDist.le hx ha hb d z hz (by omega)
    have := hb.next z y hz hy h1 hn
    omega
theorem IsDist.uniq {nb : Nat → Nat → Bool} {n x : Nat} (hx : x < n) {a b : List Int} (ha : IsDist nb n x a) (hb : IsDist nb n x b) : a = b := by
  apply List.ext_getElem (by rw [ha.len, hb.len])
  intro y h1 h2
  have hy : y < n := by rw [← ha.len]; exact h1
  have e : a.getD y 0 = b.getD y 0 := by
    have l1 := ha.lo y hy
    have l2 := hb.lo y hy
    by_cases p : 0 ≤ a.getD y 0
    · have r1 := IsDist.le hx ha hb (a.getD y 0).toNat y hy (by omega)
      have r2 := IsDist.le hx hb ha (b.getD y 0).toNat y hy (by omega)
      omega
    · by_cases q : 0 ≤ b.getD y 0
      · have r2 := IsDist.le hx hb ha (b.getD y 0).toNat y hy (by omega)
        omega
      · omega
  simpa [List.getD_eq_getElem?_getD, List.getElem?_eq_getElem h1, List.getElem?_eq_getElem h2] using e

/-- the program's search: v is at hand, 'todo' what is next to it and not seen yet -/
structure Mid (nb : Nat → Nat → Bool) (n x : Nat) (out : List Int) (queue : List Nat) (v : Nat) (todo : Nat → Prop) : Prop where
  len : out.length = n
  lo : ∀ y, y < n → -1 ≤ out.getD y 0
  zero : ∀ y, y < n → (out.getD y 0 = 0 ↔ y = x)
  pred : ∀ y, y < n → 0 < out.getD y 0 → ∃ z, z < n ∧ nb z y = true ∧ out.getD z 0 = out.getD y 0 - 1
  vn : v < n
  v0 : 0 ≤ out.getD v 0
  qin : ∀ q ∈ queue, q < n ∧ out.getD v 0 ≤ out.getD q 0 ∧ out.getD q 0 ≤ out.getD v 0 + 1
  sorted : queue.Pairwise fun p q => out.getD p 0 ≤ out.getD q 0
  top : ∀ y, y < n → out.getD y 0 ≤ out.getD v 0 + 1
  closed : ∀ y, y < n → 0 ≤ out.getD y 0 → y ∉ queue → y ≠ v → ∀ z, z < n → nb y z = true → 0 ≤ out.getD z 0 ∧ out.getD z 0 ≤ out.getD y 0 + 1
  done : ∀ z, z < n → nb v z = true → ¬ todo z → 0 ≤ out.getD z 0

theorem getD_set (l : List Int) (i j : Nat) (v : Int) (h : i < l.length) : (l.set i v).getD j 0 = if j = i then v else l.getD j 0 := by
  simp only [List.getD_eq_getElem?_getD, List.getElem?_set]
  by_cases e : i = j
  · subst e; simp [h]
  · rw [if_neg e, if_neg (fun h => e h.symm)]

variable {nb : Nat → Nat → Bool} {n x : Nat} {out : List Int} {queue : List Nat} {v : Nat} {todo : Nat → Prop}

theorem Mid.skip {y : Nat} (h : Mid nb n x out queue v todo) (hy : y < n) (h0 : 0 ≤ out.getD y 0) : Mid nb n x out queue v (fun z => todo z ∧ z ≠ y) :=
  ⟨h.len, h.lo, h.zero, h.pred, h.vn, h.v0, h.qin, h.sorted, h.top, h.closed, fun z hz hn ht => by
    by_cases e : z = y
    · subst e; exact h0
    · exact h.done z hz hn (fun t => ht ⟨t, e⟩)⟩
theorem Mid.push {y : Nat} (h : Mid nb n x out queue v todo) (hy : y < n) (h0 : out.getD y 0 < 0) (hnb : nb v y = true) :
    Mid nb n x (out.set y (out.getD v 0 + 1)) (queue ++ [y]) v (fun z => todo z ∧ z ≠ y) := by
  have hyl : y < out.length := by rw [h.len]; exact hy
  have g := fun j => getD_set out y j (out.getD v 0 + 1) hyl
  have hvy : v ≠ y := fun e => by have := h.v0; rw [e] at this; omega
  have hxy : x ≠ y := fun e => by
    have := (h.zero y hy).2 e.symm
    omega
  have gv : (out.set y (out.getD v 0 + 1)).getD v 0 = out.getD v 0 := by rw [g, if_neg hvy]
  have v0 := h.v0
  refine ⟨by rw [List.length_set]; exact h.len, fun z hz => ?_, fun z hz => ?_, fun z hz hp => ?_, h.vn, by rw [gv]; exact h.v0, fun q hq => ?_, ?_, fun z hz => ?_, fun z hz hz0 hnq hzv u hu hzu => ?_, fun z hz hn ht => ?_⟩
  · rw [g]; split
    · omega
    · exact h.lo z hz
  · rw [g]; split
    · rename_i e; subst e; constructor
      · intro e; omega
      · intro e; exact absurd e.symm hxy
    · exact h.zero z hz
  · rw [g] at hp ⊢
    split at hp
    · rename_i e; subst e
      refine ⟨v, h.vn, hnb, ?_⟩
      rw [if_pos rfl, gv]; omega
    · rename_i e
      obtain ⟨u, hu, hun, hue⟩ := h.pred z hz hp
      refine ⟨u, hu, hun, ?_⟩
      rw [if_neg e, g, if_neg ?_]
      · exact hue
      · intro e2; subst e2; omega
  · rw [gv]
    rcases List.mem_append.1 hq with hq | hq
    · have := h.qin q hq
      rw [g]; split
      · exact ⟨this.1, by omega, by omega⟩
      · exact this
    · rw [List.mem_singleton.1 hq, g, if_pos rfl]
      exact ⟨hy, by omega, by omega⟩
  · rw [List.pairwise_append]
    refine ⟨?_, List.pairwise_singleton _ _, fun p hp q hq => ?_⟩
    · refine h.sorted.imp_of_mem fun {p q} hp hq hpq => ?_
      have h1 := h.qin p hp
      have h2 := h.qin q hq
      rw [g, g, if_neg (fun e => by subst e; omega), if_neg (fun e => by subst e; omega)]
      exact hpq
    · rw [List.mem_singleton.1 hq, g, g, if_pos rfl]
      have h1 := h.qin p hp
      rw [if_neg (fun e => by subst e; omega)]
      exact h1.2.2
  · rw [gv, g]; split
    · omega
    · exact h.top z hz
  · rw [g] at hz0
    have hzq : z ∉ queue := fun hh => hnq (List.mem_append.2 (.inl hh))
    have hzy : z ≠ y := fun e => hnq (List.mem_append.2 (.inr (by simp [e])))
    rw [if_neg hzy] at hz0
    have := h.closed z hz hz0 hzq hzv u hu hzu
    rw [g, g, if_neg hzy, if_neg (fun e => by subst e; omega)]
    exact this
  · rw [g]; split
    · omega
    · rename_i e; exact h.done z hz hn (fun t => ht ⟨t, e⟩)

/-- v is done: the next one of the queue -/
theorem Mid.pop {q : Nat} {rest : List Nat} (h : Mid nb n x out (q :: rest) v todo) (ht : ∀ z, z < n → nb v z = true → ¬ todo z) :
    Mid nb n x out rest q (fun _ => True) := by
  obtain ⟨hq1, hq2, hq3⟩ := h.qin q List.mem_cons_self
  have hs := List.pairwise_cons.1 h.sorted
  have v0 := h.v0
  refine ⟨h.len, h.lo, h.zero, h.pred, hq1, by omega, fun p hp => ?_, hs.2, fun y hy => ?_, fun y hy h0 hnq hyq z hz hn => ?_, fun z hz hn hf => absurd trivial hf⟩
  · have := h.qin p (List.mem_cons_of_mem _ hp)
    exact ⟨this.1, hs.1 p hp, by omega⟩
  · have := h.top y hy; omega
  · by_cases e : y = v
    · subst e
      have h1 := h.done z hz hn (ht z hz hn)
      exact ⟨h1, h.top z hz⟩
    · refine h.closed y hy h0 (fun hm => ?_) e z hz hn
      rcases List.mem_cons.1 hm with r | r
      · exact hyq r
      · exact hnq r
theorem Mid.fin (h : Mid nb n x out [] v todo) (ht : ∀ z, z < n → nb v z = true → ¬ todo z) : IsDist nb n x out := by
  refine ⟨h.len, h.lo, h.zero, h.pred, fun y z hy hz h0 hn => ?_⟩
  by_cases e : y = v
  · subst e
    exact ⟨h.done z hz hn (ht z hz hn), h.top z hz⟩
  · exact h.closed y hy h0 (by simp) e z hz hn
/-- at the start -/
theorem Mid.start (hx : x < n) : Mid nb n x ((List.replicate n (-1 : Int)).set x 0) [] x (fun _ => True) := by
  have hl : x < (List.replicate n (-1 : Int)).length := by simpa using hx
  have g : ∀ j, j < n → ((List.replicate n (-1 : Int)).set x 0).getD j 0 = if j = x then 0 else -1 := fun j hj => by
    rw [getD_set _ _ _ _ hl]
    split
    · rfl
    · simp [List.getD_eq_getElem?_getD, hj]
  refine ⟨by simp, fun y hy => ?_, fun y hy => ?_, fun y hy hp => ?_, hx, ?_, fun q hq => (by cases hq), List.Pairwise.nil, fun y hy => ?_, fun y hy h0 _ hv => ?_, fun z hz hn hf => absurd trivial hf⟩
  · rw [g y hy]; split <;> omega
  · rw [g y hy]; split <;> simp [*]
  · rw [g y hy] at hp; split at hp <;> omega
  · rw [g x hx, if_pos rfl]; exact Int.le_refl _
  · rw [g y hy, g x hx, if_pos rfl]; split <;> omega
  · rw [g y hy, if_neg hv] at h0; omega

/-- the reference's search: level m, element i of it, what is next to it up to j -/
structure Lv (nb : Nat → Nat → Bool) (n x : Nat) (m i j : Nat) (out : List Int) : Prop where
  len : out.length = n
  lo : ∀ y, y < n → -1 ≤ out.getD y 0
  zero : ∀ y, y < n → (out.getD y 0 = 0 ↔ y = x)
  pred : ∀ y, y < n → 0 < out.getD y 0 → ∃ z, z < n ∧ nb z y = true ∧ out.getD z 0 = out.getD y 0 - 1
  top : ∀ y, y < n → out.getD y 0 ≤ m + 1
  closed : ∀ y, y < n → 0 ≤ out.getD y 0 → (out.getD y 0 < m ∨ (out.getD y 0 = m ∧ y < i)) → ∀ z, z < n → nb y z = true → 0 ≤ out.getD z 0 ∧ out.getD z 0 ≤ out.getD y 0 + 1
  cur : out.getD i 0 = m → ∀ z, z < j → z < n → nb i z = true → 0 ≤ out.getD z 0

theorem Lv.start (hx : x < n) : Lv nb n x 0 0 0 ((List.replicate n (-1 : Int)).set x 0) := by
  have h := Mid.start (nb := nb) hx
  refine ⟨h.len, h.lo, h.zero, h.pred, fun y hy => ?_, fun y hy h0 hc => ?_, fun _ z hz => (by omega)⟩
  · have h1 := h.top y hy
    have h2 := (h.zero x hx).2 rfl
    rw [h2] at h1; simpa using h1
  · rcases hc with hc | hc <;> omega
variable {m i j : Nat}
theorem Lv.keep (h : Lv nb n x m i j out) (hk : nb i j = true → j < n → 0 ≤ out.getD j 0) : Lv nb n x m i (j + 1) out := by
  refine ⟨h.len, h.lo, h.zero, h.pred, h.top, h.closed, fun hi z hz hzn hn => ?_⟩
  by_cases e : z = j
  · subst e; exact hk hn hzn
  · exact h.cur hi z (by omega) hzn hn
theorem Lv.put (h : Lv nb n x m i j out) (hi : i < n) (hj : j < n) (him : out.getD i 0 = m) (h0 : out.getD j 0 < 0) (hnb : nb i j = true) : Lv nb n x m i (j + 1) (out.set j (m + 1)) := by
  have hjl : j < out.length := by rw [h.len]; exact hj
  have g := fun k => getD_set out j k ((m : Int) + 1) hjl
  have hij : i ≠ j := fun e => by rw [e] at him; omega
  have gi : (out.set j ((m : Int) + 1)).getD i 0 = m := by rw [g, if_neg hij]; exact him
  have hxj : x ≠ j := fun e => by have := (h.zero j hj).2 e.symm; omega
  refine ⟨by rw [List.length_set]; exact h.len, fun y hy => ?_, fun y hy => ?_, fun y hy hp => ?_, fun y hy => ?_, fun y hy h1 hc z hz hn => ?_, fun _ z hz hzn hn => ?_⟩
  · rw [g]; split
    · omega
    · exact h.lo y hy
  · rw [g]; split
    · rename_i e; subst e; constructor
      · intro e; omega
      · intro e; exact absurd e.symm hxj
    · exact h.zero y hy
  · rw [g] at hp ⊢
    split at hp
    · rename_i e; subst e
      exact ⟨i, hi, hnb, by rw [if_pos rfl, gi]; omega⟩
    · rename_i e
      obtain ⟨u, hu, hun, hue⟩ := h.pred y hy hp
      refine ⟨u, hu, hun, ?_⟩
      rw [if_neg e, g, if_neg (fun e2 => by subst e2; omega)]
      exact hue
  · rw [g]; split
    · exact Int.le_refl _
    · exact h.top y hy
  · rw [g] at h1 hc
    split at h1
    · rename_i e; subst e; simp only [if_true] at hc; rcases hc with hc | hc <;> omega
    · rename_i e
      rw [if_neg e] at hc
      have := h.closed y hy h1 hc z hz hn
      rw [g, g y, if_neg e, if_neg (fun e2 => by subst e2; omega)]
      exact this
  · rw [g]; split
    · omega
    · rename_i e; exact h.cur him z (by omega) hzn hn
theorem Lv.nextY (h : Lv nb n x m i j out) (hj : out.getD i 0 = m → j = n) : Lv nb n x m (i + 1) 0 out := by
  refine ⟨h.len, h.lo, h.zero, h.pred, h.top, fun y hy h0 hc z hz hn => ?_, fun _ z hz => (by omega)⟩
  by_cases e : out.getD y 0 = m ∧ y = i
  · obtain ⟨e1, rfl⟩ := e
    have := h.cur e1 z (by rw [hj e1]; exact hz) hz hn
    have := h.top z hz
    omega
  · exact h.closed y hy h0 (by rcases hc with hc | hc <;> omega) z hz hn
theorem Lv.nextM (h : Lv nb n x m n j out) : Lv nb n x (m + 1) 0 0 out := by
  refine ⟨h.len, h.lo, h.zero, h.pred, fun y hy => (by have := h.top y hy; omega), fun y hy h0 hc z hz hn => ?_, fun _ z hz => (by omega)⟩
  exact h.closed y hy h0 (by rcases hc with hc | hc <;> omega) z hz hn

theorem nodup_len {α : Type} [DecidableEq α] : ∀ (l1 l2 : List α), l1.Nodup → (∀ a ∈ l1, a ∈ l2) → l1.length ≤ l2.length
  | [], _, _, _ => Nat.zero_le _
  | a :: l1, l2, hn, hs => by
    have hn' := List.nodup_cons.1 hn
    have ha := hs a List.mem_cons_self
    have := nodup_len l1 (l2.erase a) hn'.2 (fun b hb => (List.mem_erase_of_ne (fun e => hn'.1 (by rw [← e]; exact hb))).2 (hs b (List.mem_cons_of_mem _ hb)))
    rw [List.length_erase_of_mem ha] at this
    have : 0 < l2.length := List.length_pos_of_mem ha
    simp only [List.length_cons]; omega
theorem Lv.chain (h : Lv nb n x m i j out) : ∀ (k y : Nat), y < n → out.getD y 0 = k → ∀ t, t ≤ k → (t : Int) ∈ out
  | k, y, hy, he, t, ht => by
    by_cases e : t = k
    · subst e
      have hl : y < out.length := by rw [h.len]; exact hy
      rw [← he, List.getD_eq_getElem?_getD, List.getElem?_eq_getElem hl]
      exact List.getElem_mem hl
    · obtain ⟨z, hz, _, hze⟩ := h.pred y hy (by omega)
      cases k with
      | zero => omega
      | succ k => exact h.chain k z hz (by omega) t (by omega)
theorem Lv.small (h : Lv nb n x m i j out) (y : Nat) (hy : y < n) : out.getD y 0 < n := by
  by_cases h0 : out.getD y 0 < 0
  · omega
  have hc := h.chain (out.getD y 0).toNat y hy (by omega)
  have hl := nodup_len ((List.range ((out.getD y 0).toNat + 1)).map (fun t : Nat => (t : Int))) out (by
    rw [List.nodup_iff_pairwise_ne, List.pairwise_map]
    exact (List.nodup_iff_pairwise_ne.1 List.nodup_range).imp (fun hab e => hab (by omega))) (fun a ha => by
    obtain ⟨t, ht, rfl⟩ := List.mem_map.1 ha
    exact hc t (by have := List.mem_range.1 ht; omega))
  rw [List.length_map, List.length_range, h.len] at hl
  omega
theorem Lv.fin (h : Lv nb n x n 0 0 out) : IsDist nb n x out :=
  ⟨h.len, h.lo, h.zero, h.pred, fun y z hy hz h0 hn => h.closed y hy h0 (.inl (h.small y hy)) z hz hn⟩

/-- the distances -/
noncomputable def distL (nb : Nat → Nat → Bool) (n x : Nat) : List Int := Classical.epsilon (IsDist nb n x)
theorem distL_eq (hx : x < n) (h : IsDist nb n x out) : distL nb n x = out := (Classical.epsilon_spec ⟨out, h⟩ : IsDist nb n x (distL nb n x)).uniq hx h
end Go.Proofs.YtlnmebjbinmeiaaDoor.dist
