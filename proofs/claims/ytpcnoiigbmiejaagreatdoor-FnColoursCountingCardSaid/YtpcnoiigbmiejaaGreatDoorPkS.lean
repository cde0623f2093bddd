/- Several texts in one: ColQ, ColI. -/
import Derived.Test.YtpcnoiigbmiejaaGreatDoorPkB
import Derived.Test.YtpcnoiigbmiejaaGreatDoorPkO
import Derived.Test.YtpcnoiigbmiejaaGreatDoorPkC
/- Laws of refinement: it stops, two structures' colours are those of each, and it does not see names. Plain words, no program in sight. -/
namespace Go.Proofs.YtpcnoiigbmiejaaGreatDoor.colq
set_option linter.unusedVariables false
set_option linter.unusedSimpArgs false
open Go.Proofs.YtpcnoiigbmiejaaGreatDoor.base Go.Proofs.YtpcnoiigbmiejaaGreatDoor.col Go.Proofs.YtpcnoiigbmiejaaGreatDoor.colp Go.Proofs.YtpcnoiigbmiejaaGreatDoor.both

theorem mem_getD {l : List Int} {x : Int} (h : x ∈ l) : ∃ i, i < l.length ∧ l.getD i 0 = x := by
  obtain ⟨i, hi, e⟩ := List.getElem_of_mem h
  exact ⟨i, hi, by rw [List.getD_eq_getElem?_getD, List.getElem?_eq_getElem hi]; exact e⟩
theorem getD_mem {l : List Int} {i : Nat} (h : i < l.length) : l.getD i 0 ∈ l := by
  rw [List.getD_eq_getElem?_getD, List.getElem?_eq_getElem h]; exact List.getElem_mem h
theorem getD_mapI {l : List Int} {g : Int → Int} {i : Nat} (h : i < l.length) : (l.map g).getD i 0 = g (l.getD i 0) := by
  simp [List.getD_eq_getElem?_getD, h]
theorem ext_getD {l m : List Int} (h : l.length = m.length) (he : ∀ i, i < l.length → l.getD i 0 = m.getD i 0) : l = m := by
  apply List.ext_getElem h
  intro i h1 h2
  have := he i h1
  rw [List.getD_eq_getElem?_getD, List.getElem?_eq_getElem h1, List.getD_eq_getElem?_getD, List.getElem?_eq_getElem h2] at this
  exact this
theorem idx_at {l : List Int} {v : Int} (h : v ∈ l) : l.getD (l.idxOf v) 0 = v := by
  rw [List.getD_eq_getElem?_getD, List.getElem?_eq_getElem (List.idxOf_lt_length_of_mem h), Option.getD_some, List.getElem_idxOf]
theorem less_head {a b : Int} {l m : List Int} (h : a < b) : lessL (a :: l) (b :: m) = true := by
  rw [lessL, if_neg (by omega)]; exact decide_eq_true h
theorem nums_lt? {L : List (List Int)} {i j : Nat} {d e : List Int} (hi : L[i]? = some d) (hj : L[j]? = some e) : (nums L).getD i 0 < (nums L).getD j 0 ↔ lessL d e = true := by
  obtain ⟨li, rfl⟩ := List.getElem?_eq_some_iff.1 hi
  obtain ⟨lj, rfl⟩ := List.getElem?_eq_some_iff.1 hj
  exact nums_lt li lj
theorem nums_at {L : List (List Int)} {i : Nat} {d : List Int} (hi : L[i]? = some d) : (nums L).getD i 0 = ((num L d : Nat) : Int) := by
  obtain ⟨li, rfl⟩ := List.getElem?_eq_some_iff.1 hi
  exact nums_get li
/-- a smaller colour stays smaller -/
theorem cols_mono {As : List St} {k i j : Nat} (hi : i < total As) (hj : j < total As) (h : (cols As k).getD i 0 < (cols As k).getD j 0) : (cols As (k + 1)).getD i 0 < (cols As (k + 1)).getD j 0 := by
  obtain ⟨t, ht⟩ := nexts_head As (cols As k) (cols_len As k) hi
  obtain ⟨u, hu⟩ := nexts_head As (cols As k) (cols_len As k) hj
  exact (nums_lt? ht hu).2 (less_head h)
/-- numbers that are moved onto themselves in order stay where they are -/
theorem mono_onto {m : Int} {f : Int → Int} (hm : ∀ x y, 0 ≤ x → x < m → 0 ≤ y → y < m → x ≤ y → f x ≤ f y) (ho : ∀ y, 0 ≤ y → y < m → ∃ x, 0 ≤ x ∧ x < m ∧ f x = y) : ∀ x, 0 ≤ x → x < m → f x = x := by
  have up : ∀ n : Nat, (n : Int) < m → f n ≤ n := by
    intro n
    induction n with
    | zero =>
      intro h
      obtain ⟨x, h0, h1, e⟩ := ho ((0 : Nat) : Int) (by omega) h
      have := hm ((0 : Nat) : Int) x (by omega) h h0 h1 (by omega)
      omega
    | succ n ih =>
      intro h
      have ih := ih (by omega)
      obtain ⟨x, h0, h1, e⟩ := ho ((n + 1 : Nat) : Int) (by omega) h
      by_cases hx : x ≤ n
      · have := hm x n h0 h1 (by omega) (by omega) hx; omega
      · have := hm ((n + 1 : Nat) : Int) x (by omega) h h0 h1 (by omega); omega
  have down : ∀ d : Nat, (d : Int) < m → m - 1 - d ≤ f (m - 1 - d) := by
    intro d
    induction d with
    | zero =>
      intro h
      obtain ⟨x, h0, h1, e⟩ := ho (m - 1 - ((0 : Nat) : Int)) (by omega) (by omega)
      have := hm x (m - 1 - ((0 : Nat) : Int)) h0 h1 (by omega) (by omega) (by omega)
      omega
    | succ d ih =>
      intro h
      have ih := ih (by omega)
      obtain ⟨x, h0, h1, e⟩ := ho (m - 1 - ((d + 1 : Nat) : Int)) (by omega) (by omega)
      by_cases hx : m - 1 - d ≤ x
      · have := hm (m - 1 - d) x (by omega) (by omega) h0 h1 hx; omega
      · have := hm x (m - 1 - ((d + 1 : Nat) : Int)) h0 h1 (by omega) (by omega) (by omega); omega
  intro x h0 h1
  have a := up x.toNat (by omega)
  have b := down (m - 1 - x).toNat (by omega)
  rw [show ((x.toNat : Nat) : Int) = x by omega] at a
  rw [show m - 1 - (((m - 1 - x).toNat : Nat) : Int) = x by omega] at b
  omega
/-- two lists that number their places in the same order, without gaps, are equal -/
theorem same_numbers {c C : List Int} {m : Int} (hl : c.length = C.length) (hc : ∀ x, x ∈ c ↔ 0 ≤ x ∧ x < m) (hC : ∀ x, x ∈ C ↔ 0 ≤ x ∧ x < m) (hg : ∀ i j, i < C.length → j < C.length → c.getD i 0 < c.getD j 0 → C.getD i 0 < C.getD j 0) : C = c := by
  have hf : ∀ i v, i < C.length → C.getD i 0 = v → c.getD (C.idxOf v) 0 = c.getD i 0 := by
    intro i v hi hv
    have hm : v ∈ C := by rw [← hv]; exact getD_mem hi
    have hlt := List.idxOf_lt_length_of_mem hm
    have e := idx_at hm
    by_cases h : c.getD (C.idxOf v) 0 < c.getD i 0
    · have := hg _ _ hlt hi h; omega
    · by_cases h2 : c.getD i 0 < c.getD (C.idxOf v) 0
      · have := hg _ _ hi hlt h2; omega
      · omega
  have id := mono_onto (m := m) (f := fun v => c.getD (C.idxOf v) 0) (fun x y x0 x1 y0 y1 hxy => by
    obtain ⟨i, hi, ei⟩ := mem_getD ((hC x).2 ⟨x0, x1⟩)
    obtain ⟨j, hj, ej⟩ := mem_getD ((hC y).2 ⟨y0, y1⟩)
    show c.getD (C.idxOf x) 0 ≤ c.getD (C.idxOf y) 0
    rw [hf i x hi ei, hf j y hj ej]
    by_cases h : c.getD j 0 < c.getD i 0
    · have := hg j i hj hi h; omega
    · omega) (fun y y0 y1 => by
    obtain ⟨i, hi, ei⟩ := mem_getD ((hc y).2 ⟨y0, y1⟩)
    have hm := (hC (C.getD i 0)).1 (getD_mem (by omega))
    exact ⟨C.getD i 0, hm.1, hm.2, (hf i _ (by omega) rfl).trans ei⟩)
  refine ext_getD hl.symm fun i hi => ?_
  have hm := (hC (C.getD i 0)).1 (getD_mem hi)
  exact (id _ hm.1 hm.2).symm.trans (hf i _ hi rfl)
/-- as many colours as before: the same ones -/
theorem cols_stop {As : List St} {k : Nat} (h : 0 < total As) (e : most (cols As k) = most (cols As (k + 1))) : cols As (k + 1) = cols As k := by
  refine same_numbers (m := most (cols As k)) (by rw [cols_len, cols_len]) (fun x => cols_all h k) (fun x => by rw [e]; exact cols_all h (k + 1)) fun i j hi hj hc => ?_
  rw [cols_len] at hi hj
  exact cols_mono hi hj hc
theorem cols_stay {As : List St} {k : Nat} (h : cols As (k + 1) = cols As k) : ∀ j, cols As (k + j) = cols As k
  | 0 => rfl
  | j + 1 => by
    have ih := cols_stay h j
    show nums (nexts As (cols As (k + j))) = cols As k
    rw [ih]; exact h

/-! the same order -/
def OrdEq (p q : List Int) : Prop := p.length = q.length ∧ ∀ i j, i < p.length → j < p.length → (p.getD i 0 < p.getD j 0 ↔ q.getD i 0 < q.getD j 0)
theorem OrdEq.eq {p q : List Int} (h : OrdEq p q) {i j : Nat} (hi : i < p.length) (hj : j < p.length) : p.getD i 0 = p.getD j 0 ↔ q.getD i 0 = q.getD j 0 := by
  have h1 := h.2 i j hi hj
  have h2 := h.2 j i hj hi
  omega
theorem OrdEq.map {p q : List Int} (h : OrdEq p q) : ∃ f : Int → Int, q = p.map f ∧ ∀ x y, x ∈ p → y ∈ p → (x < y ↔ f x < f y) := by
  have hf : ∀ i v, i < p.length → p.getD i 0 = v → q.getD (p.idxOf v) 0 = q.getD i 0 := by
    intro i v hi hv
    have hm : v ∈ p := by rw [← hv]; exact getD_mem hi
    exact (h.eq (List.idxOf_lt_length_of_mem hm) hi).1 ((idx_at hm).trans hv.symm)
  refine ⟨fun v => q.getD (p.idxOf v) 0, ?_, fun x y hx hy => ?_⟩
  · refine ext_getD (by rw [List.length_map]; exact h.1.symm) fun i hi => ?_
    have hi : i < p.length := by have := h.1; omega
    rw [getD_mapI hi]
    exact (hf i _ hi rfl).symm
  · obtain ⟨i, hi, ei⟩ := mem_getD hx
    obtain ⟨j, hj, ej⟩ := mem_getD hy
    show _ ↔ q.getD (p.idxOf x) 0 < q.getD (p.idxOf y) 0
    rw [hf i x hi ei, hf j y hj ej, ← h.2 i j hi hj, ei, ej]
theorem way_map (a : St) (c : List Int) (x k m : Nat) (f : Int → Int) (h : m ≤ c.length) : way a (c.map f) x k m = (way a c x k m).map f := by
  unfold way
  rw [List.map_map]
  refine List.map_congr_left fun y hy => ?_
  have := List.mem_range.1 (List.mem_filter.1 hy).1
  exact getD_mapI (by omega)
theorem way_mem {a : St} {c : List Int} {x k m : Nat} {v : Int} (h : m ≤ c.length) (hv : v ∈ way a c x k m) : v ∈ c := by
  obtain ⟨y, hy, rfl⟩ := List.mem_map.1 hv
  have := List.mem_range.1 (List.mem_filter.1 hy).1
  exact getD_mem (by omega)
theorem sortI_map {l : List Int} {f : Int → Int} (hf : ∀ x y, x ∈ l → y ∈ l → x ≤ y → f x ≤ f y) : sortI (l.map f) = (sortI l).map f := by
  refine (sorted_eq ?_ ((sortI_perm l).map f)).symm
  rw [List.pairwise_map]
  refine List.Pairwise.imp_of_mem (fun {a b} ha hb hab => ?_) (sortI_sorted l)
  exact hf a b ((sortI_perm l).mem_iff.1 ha) ((sortI_perm l).mem_iff.1 hb) hab
theorem less_app : ∀ {p q : List Int} (r s : List Int), p.length = q.length → lessL (p ++ r) (q ++ s) = if p = q then lessL r s else lessL p q
  | [], [], r, s, _ => by simp
  | [], _ :: _, r, s, h => by simp at h
  | _ :: _, [], r, s, h => by simp at h
  | a :: p, b :: q, r, s, h => by
    have ih := less_app (p := p) (q := q) r s (by simpa using h)
    by_cases e : a = b
    · subst e
      rw [List.cons_append, List.cons_append, lessL, if_pos rfl, ih, lessL, if_pos rfl]
      by_cases e2 : p = q
      · rw [if_pos e2, if_pos (by rw [e2])]
      · rw [if_neg e2, if_neg (by simpa using e2)]
    · rw [List.cons_append, List.cons_append, lessL, if_neg e, if_neg (by simp [e]), lessL, if_neg e]
section
variable {f : Int → Int} {P : Int → Prop} (hf : ∀ x y, P x → P y → (x < y ↔ f x < f y))
include hf
theorem f_eq {x y : Int} (hx : P x) (hy : P y) : x = y ↔ f x = f y := by
  have h1 := hf x y hx hy
  have h2 := hf y x hy hx
  omega
theorem less_map : ∀ {p q : List Int}, (∀ x, x ∈ p → P x) → (∀ x, x ∈ q → P x) → lessL (p.map f) (q.map f) = lessL p q
  | [], [], _, _ => rfl
  | [], _ :: _, _, _ => rfl
  | _ :: _, [], _, _ => rfl
  | a :: p, b :: q, hp, hq => by
    have ha := hp a List.mem_cons_self
    have hb := hq b List.mem_cons_self
    have ih := less_map (p := p) (q := q) (fun x hx => hp x (List.mem_cons_of_mem _ hx)) (fun x hx => hq x (List.mem_cons_of_mem _ hx))
    rw [List.map_cons, List.map_cons, lessL, lessL, ih]
    by_cases e : a = b
    · rw [if_pos e, if_pos ((f_eq hf ha hb).1 e)]
    · rw [if_neg e, if_neg (fun h => e ((f_eq hf ha hb).2 h))]
      exact decide_eq_decide.2 (hf a b ha hb).symm
theorem map_inj : ∀ {p q : List Int}, (∀ x, x ∈ p → P x) → (∀ x, x ∈ q → P x) → p.map f = q.map f → p = q
  | [], [], _, _, _ => rfl
  | [], _ :: _, _, _, h => by simp at h
  | _ :: _, [], _, _, h => by simp at h
  | a :: p, b :: q, hp, hq, h => by
    rw [List.map_cons, List.map_cons] at h
    obtain ⟨h1, h2⟩ := List.cons.inj h
    rw [(f_eq hf (hp a List.mem_cons_self) (hq b List.mem_cons_self)).2 h1, map_inj (fun x hx => hp x (List.mem_cons_of_mem _ hx)) (fun x hx => hq x (List.mem_cons_of_mem _ hx)) h2]
theorem f_le {x y : Int} (hx : P x) (hy : P y) (h : x ≤ y) : f x ≤ f y := by
  have h2 := hf y x hy hx
  omega
theorem less_blocks : ∀ {A B : List (List Int)}, A.length = B.length → (∀ l, l ∈ A → ∀ x, x ∈ l → P x) → (∀ l, l ∈ B → ∀ x, x ∈ l → P x) →
    lessL ((A.map (List.map f)).flatMap wayOut) ((B.map (List.map f)).flatMap wayOut) = lessL (A.flatMap wayOut) (B.flatMap wayOut)
  | [], [], _, _, _ => rfl
  | [], _ :: _, h, _, _ => by simp at h
  | _ :: _, [], h, _, _ => by simp at h
  | l :: A, m :: B, h, hA, hB => by
    have ih := less_blocks (A := A) (B := B) (by simpa using h) (fun x hx => hA x (List.mem_cons_of_mem _ hx)) (fun x hx => hB x (List.mem_cons_of_mem _ hx))
    have hl := hA l List.mem_cons_self
    have hm := hB m List.mem_cons_self
    have hl' : ∀ x, x ∈ sortI l → P x := fun x hx => hl x ((sortI_perm l).mem_iff.1 hx)
    have hm' : ∀ x, x ∈ sortI m → P x := fun x hx => hm x ((sortI_perm m).mem_iff.1 hx)
    simp only [List.map_cons, List.flatMap_cons, wayOut, List.length_map, List.cons_append]
    rw [sortI_map (fun x y hx hy => f_le hf (hl x hx) (hl y hy)), sortI_map (fun x y hx hy => f_le hf (hm x hx) (hm y hy))]
    by_cases e : (l.length : Int) = m.length
    · have e' : l.length = m.length := by omega
      rw [lessL, if_pos e, lessL, if_pos e, less_app _ _ (by rw [List.length_map, List.length_map, sortI_len, sortI_len, e']), less_app _ _ (by rw [sortI_len, sortI_len, e']), less_map hf hl' hm']
      rw [ih]
      by_cases e2 : sortI l = sortI m
      · rw [if_pos e2, if_pos (by rw [e2])]
      · rw [if_neg e2, if_neg (fun h => e2 (map_inj hf hl' hm' h))]
    · rw [lessL, if_neg e, lessL, if_neg e]
end
theorem desc_blocks (a : St) (c : List Int) (x : Nat) : desc a c x = c.getD x 0 :: ((List.range 4).map fun j => way a c x j a.n).flatMap wayOut := by
  rw [desc, descTo, List.flatMap_map]
/-- descriptions are in the same order if the colours are -/
theorem desc_less {a : St} {c d : List Int} (h : OrdEq c d) (hc : c.length = a.n) {x y : Nat} (hx : x < a.n) (hy : y < a.n) : lessL (desc a d x) (desc a d y) = lessL (desc a c x) (desc a c y) := by
  obtain ⟨f, rfl, hf⟩ := h.map
  rw [desc_blocks, desc_blocks, desc_blocks, desc_blocks, getD_mapI (by omega), getD_mapI (by omega)]
  have hfm : ∀ x y, x ∈ c → y ∈ c → (x < y ↔ f x < f y) := hf
  have e : ∀ x, ((List.range 4).map fun j => way a (c.map f) x j a.n) = ((List.range 4).map fun j => way a c x j a.n).map (List.map f) := fun x => by
    rw [List.map_map]
    exact List.map_congr_left fun j _ => way_map a c x j a.n f (by omega)
  have hm : ∀ x l, l ∈ ((List.range 4).map fun j => way a c x j a.n) → ∀ v, v ∈ l → v ∈ c := fun x l hl v hv => by
    obtain ⟨j, _, rfl⟩ := List.mem_map.1 hl
    exact way_mem (by omega) hv
  have hxm : c.getD x 0 ∈ c := getD_mem (by omega)
  have hym : c.getD y 0 ∈ c := getD_mem (by omega)
  rw [e, e, lessL, lessL, less_blocks (P := fun v => v ∈ c) hfm (by simp) (hm x) (hm y)]
  by_cases e1 : c.getD x 0 = c.getD y 0
  · rw [if_pos e1, if_pos (by rw [e1])]
  · rw [if_neg e1, if_neg (fun h => e1 ((f_eq (P := fun v => v ∈ c) hfm hxm hym).2 h))]
    exact decide_eq_decide.2 (hfm _ _ hxm hym).symm

theorem take_get {l : List Int} {i k : Nat} (h : i < k) : (l.take k).getD i 0 = l.getD i 0 := by
  simp [List.getD_eq_getElem?_getD, List.getElem?_take, h]
theorem drop_get (l : List Int) (i k : Nat) : (l.drop k).getD i 0 = l.getD (k + i) 0 := by
  simp [List.getD_eq_getElem?_getD, List.getElem?_drop]
theorem one_get {a : St} {c : List Int} {i : Nat} (hi : i < a.n) (hc : c.length = a.n) : (nexts [a] c)[i]? = some (desc a c i) := by
  simp only [nexts, List.append_nil]
  rw [List.getElem?_map, List.getElem?_range hi, List.take_of_length_le (by omega)]; rfl
theorem two_getA {a b : St} {c : List Int} {i : Nat} (hi : i < a.n) : (nexts [a, b] c)[i]? = some (desc a (c.take a.n) i) := by
  rw [nexts, List.getElem?_append_left (by simpa using hi), List.getElem?_map, List.getElem?_range hi]; rfl
theorem two_getB {a b : St} {c : List Int} {i : Nat} (hi : i < b.n) (hc : c.length = a.n + b.n) : (nexts [a, b] c)[a.n + i]? = some (desc b (c.drop a.n) i) := by
  rw [nexts, List.getElem?_append_right (by simp), nexts, nexts, List.append_nil, List.length_map, List.length_range, Nat.add_sub_cancel_left, List.getElem?_map, List.getElem?_range hi, List.take_of_length_le (by rw [List.length_drop]; omega)]; rfl
theorem f_one {a : St} {i : Nat} (hi : i < a.n) : (firsts [a])[i]? = some (d0 a i) := by
  simp only [firsts, List.append_nil]
  rw [List.getElem?_map, List.getElem?_range hi]; rfl
theorem f_twoA {a b : St} {i : Nat} (hi : i < a.n) : (firsts [a, b])[i]? = some (d0 a i) := by
  rw [firsts, List.getElem?_append_left (by simpa using hi), List.getElem?_map, List.getElem?_range hi]; rfl
theorem f_twoB {a b : St} {i : Nat} (hi : i < b.n) : (firsts [a, b])[a.n + i]? = some (d0 b i) := by
  rw [firsts, List.getElem?_append_right (by simp), firsts, firsts, List.append_nil, List.length_map, List.length_range, Nat.add_sub_cancel_left, List.getElem?_map, List.getElem?_range hi]; rfl
theorem two_len (a b : St) (k : Nat) : (cols [a, b] k).length = a.n + b.n := by rw [cols_len]; simp [total]
theorem one_len (a : St) (k : Nat) : (cols [a] k).length = a.n := by rw [cols_len]; simp [total]
theorem colA_get {a b : St} {k i : Nat} (hi : i < a.n) : (colA a b k).getD i 0 = (cols [a, b] k).getD i 0 := take_get hi
theorem colB_get (a b : St) (k i : Nat) : (colB a b k).getD i 0 = (cols [a, b] k).getD (a.n + i) 0 := drop_get _ _ _
theorem colA_length (a b : St) (k : Nat) : (colA a b k).length = a.n := by
  show ((cols [a, b] k).take a.n).length = a.n
  rw [List.length_take, two_len]; omega
theorem colB_length (a b : St) (k : Nat) : (colB a b k).length = b.n := by
  show ((cols [a, b] k).drop a.n).length = b.n
  rw [List.length_drop, two_len]; omega
/-- compared with another one, a structure's elements are in the same order as alone -/
theorem both_ord (a b : St) : ∀ k, OrdEq (colA a b k) (cols [a] k)
  | 0 => by
    refine ⟨by rw [colA_length, one_len], fun i j hi hj => ?_⟩
    rw [colA_length] at hi hj
    rw [colA_get hi, colA_get hj, cols, cols, nums_lt? (f_twoA hi) (f_twoA hj), nums_lt? (f_one hi) (f_one hj)]
  | k + 1 => by
    refine ⟨by rw [colA_length, one_len], fun i j hi hj => ?_⟩
    rw [colA_length] at hi hj
    rw [colA_get hi, colA_get hj, cols, cols, nums_lt? (two_getA hi) (two_getA hj), nums_lt? (one_get hi (one_len a k)) (one_get hj (one_len a k))]
    rw [desc_less (both_ord a b k) (colA_length a b k) hi hj]
    exact Iff.rfl
theorem nums_comm (L M : List (List Int)) : nums (M ++ L) = (nums (L ++ M)).drop L.length ++ (nums (L ++ M)).take L.length := by
  have e : num (M ++ L) = num (L ++ M) := funext fun d => num_congr (fun x => by simp only [List.mem_append]; exact Or.comm) d
  unfold nums
  rw [e, List.map_append, List.map_append, List.drop_left' (by simp), List.take_left' (by simp)]
theorem nexts_pair (a b : St) (c : List Int) (h : c.length = a.n + b.n) : nexts [a, b] c = (List.range a.n).map (desc a (c.take a.n)) ++ (List.range b.n).map (desc b (c.drop a.n)) := by
  rw [nexts, nexts, nexts, List.append_nil, List.take_of_length_le (l := c.drop a.n) (by rw [List.length_drop]; omega)]
/-- the order of both structures does not matter -/
theorem both_swap (a b : St) : ∀ k, cols [b, a] k = colB a b k ++ colA a b k
  | 0 => by
    have e := nums_comm ((List.range a.n).map (d0 a)) ((List.range b.n).map (d0 b))
    show nums (firsts [b, a]) = (nums (firsts [a, b])).drop a.n ++ (nums (firsts [a, b])).take a.n
    simp only [firsts, List.append_nil]
    rw [e]; simp
  | k + 1 => by
    have ih := both_swap a b k
    have hB := colB_length a b k
    have hA := colA_length a b k
    show nums (nexts [b, a] (cols [b, a] k)) = (nums (nexts [a, b] (cols [a, b] k))).drop a.n ++ (nums (nexts [a, b] (cols [a, b] k))).take a.n
    rw [nexts_pair a b _ (two_len a b k), nexts_pair b a _ (two_len b a k), ih, List.take_left' hB, List.drop_left' hB]
    have e := nums_comm ((List.range a.n).map (desc a (colA a b k))) ((List.range b.n).map (desc b (colB a b k)))
    rw [e]; simp [colA, colB]
theorem swapA (a b : St) (k : Nat) : colA b a k = colB a b k := by
  show (cols [b, a] k).take b.n = _
  rw [both_swap, List.take_left' (colB_length a b k)]
theorem swapB (a b : St) (k : Nat) : colB b a k = colA a b k := by
  show (cols [b, a] k).drop b.n = _
  rw [both_swap, List.drop_left' (colB_length a b k)]
theorem same_swap (a b : St) (k : Nat) : sameAt b a k = sameAt a b k := by
  show decide ((colA b a k).Perm (colB b a k)) = decide ((colA a b k).Perm (colB a b k))
  rw [swapA a b k, swapB a b k]
  exact decide_eq_decide.2 ⟨fun h => h.symm, fun h => h.symm⟩
theorem same_self (a : St) (k : Nat) : sameAt a a k = true := by
  refine decide_eq_true ?_
  rw [cols_two, List.take_left' (one_len a k), List.drop_left' (one_len a k)]
/-- compared with another one, the second structure's elements are in the same order as alone -/
theorem both_ordB (a b : St) (k : Nat) : OrdEq (colB a b k) (cols [b] k) := by rw [← swapA]; exact both_ord b a k

/-! names do not matter -/
section
open Go.Proofs.YtpcnoiigbmiejaaGreatDoor.fits
variable {n : Nat} {sa ra sb rb : ByteArray} {o : List Nat} (h : Iso n sa ra sb rb o)
include h
theorem iso_perm : ((List.range n).map fun i => o.getD i 0).Perm (List.range n) := by
  refine (List.perm_ext_iff_of_nodup ?_ List.nodup_range).2 fun y => ?_
  · rw [List.Nodup, List.pairwise_map]
    exact List.Pairwise.imp_of_mem (fun {i j} hi hj hij e => hij (h.inj i j (List.mem_range.1 hi) (List.mem_range.1 hj) e)) List.nodup_range
  · rw [List.mem_map, List.mem_range]
    constructor
    · rintro ⟨i, hi, rfl⟩; exact h.lt i (List.mem_range.1 hi)
    · intro hy
      obtain ⟨i, hi, e⟩ := h.onto hy
      exact ⟨i, List.mem_range.2 hi, e⟩
theorem iso_d0 {i : Nat} (hi : i < n) : d0 ⟨n, sb, rb⟩ i = d0 ⟨n, sa, ra⟩ (o.getD i 0) := by
  unfold d0
  simp only
  rw [h.s i hi, h.r i i hi hi]
theorem iso_kind {i j : Nat} (hi : i < n) (hj : j < n) : kindOf ⟨n, sb, rb⟩ i j = kindOf ⟨n, sa, ra⟩ (o.getD i 0) (o.getD j 0) := by
  unfold kindOf
  simp only
  rw [h.r i j hi hj, h.r j i hj hi]
theorem iso_way {ca cb : List Int} (hc : ∀ i, i < n → cb.getD i 0 = ca.getD (o.getD i 0) 0) {i : Nat} (hi : i < n) (k : Nat) : (way ⟨n, sb, rb⟩ cb i k n).Perm (way ⟨n, sa, ra⟩ ca (o.getD i 0) k n) := by
  unfold way
  refine List.Perm.trans (List.Perm.of_eq ?_) (((iso_perm h).filter _).map _)
  rw [List.filter_map, List.map_map]
  have e : (List.range n).filter (fun y => y != i && kindOf ⟨n, sb, rb⟩ i y == k) = (List.range n).filter ((fun y => y != o.getD i 0 && kindOf ⟨n, sa, ra⟩ (o.getD i 0) y == k) ∘ fun i => o.getD i 0) := by
    refine List.filter_congr fun y hy => ?_
    have hy := List.mem_range.1 hy
    show _ = (o.getD y 0 != o.getD i 0 && kindOf ⟨n, sa, ra⟩ (o.getD i 0) (o.getD y 0) == k)
    rw [iso_kind h hi hy]
    have : (y != i) = (o.getD y 0 != o.getD i 0) := by
      by_cases e : y = i
      · subst e; simp
      · have e2 : o.getD y 0 ≠ o.getD i 0 := fun e2 => e (h.inj y i hy hi e2)
        rw [bne_iff_ne.2 e, bne_iff_ne.2 e2]
    rw [this]
  rw [e]
  exact List.map_congr_left fun y hy => hc y (List.mem_range.1 (List.mem_filter.1 hy).1)
theorem iso_desc {ca cb : List Int} (hc : ∀ i, i < n → cb.getD i 0 = ca.getD (o.getD i 0) 0) {i : Nat} (hi : i < n) : desc ⟨n, sb, rb⟩ cb i = desc ⟨n, sa, ra⟩ ca (o.getD i 0) := by
  rw [desc_blocks, desc_blocks, hc i hi]
  congr 1
  rw [List.flatMap_map, List.flatMap_map]
  have e : (fun k => wayOut (way ⟨n, sb, rb⟩ cb i k n)) = fun k => wayOut (way ⟨n, sa, ra⟩ ca (o.getD i 0) k n) := funext fun k => by
    have p := iso_way h hc hi k
    rw [wayOut, wayOut, p.length_eq, sortI_congr p]
  show List.flatMap (fun k => wayOut (way ⟨n, sb, rb⟩ cb i k n)) _ = _
  rw [e]
theorem iso_both : ∀ k i, i < n → (colB ⟨n, sa, ra⟩ ⟨n, sb, rb⟩ k).getD i 0 = (colA ⟨n, sa, ra⟩ ⟨n, sb, rb⟩ k).getD (o.getD i 0) 0
  | 0, i, hi => by
    rw [colB_get, colA_get (h.lt i hi), cols, nums_at (f_twoB (a := ⟨n, sa, ra⟩) (b := ⟨n, sb, rb⟩) hi), nums_at (f_twoA (a := ⟨n, sa, ra⟩) (b := ⟨n, sb, rb⟩) (h.lt i hi)), iso_d0 h hi]
  | k + 1, i, hi => by
    have ih := iso_both k
    rw [colB_get, colA_get (h.lt i hi), cols, nums_at (two_getB (a := ⟨n, sa, ra⟩) (b := ⟨n, sb, rb⟩) hi (two_len _ _ k)), nums_at (two_getA (a := ⟨n, sa, ra⟩) (b := ⟨n, sb, rb⟩) (h.lt i hi))]
    rw [show desc ⟨n, sb, rb⟩ ((cols [⟨n, sa, ra⟩, ⟨n, sb, rb⟩] k).drop n) i = desc ⟨n, sa, ra⟩ ((cols [⟨n, sa, ra⟩, ⟨n, sb, rb⟩] k).take n) (o.getD i 0) from iso_desc h ih hi]
theorem iso_same (k : Nat) : sameAt ⟨n, sa, ra⟩ ⟨n, sb, rb⟩ k = true := by
  refine decide_eq_true ?_
  show (colA ⟨n, sa, ra⟩ ⟨n, sb, rb⟩ k).Perm (colB ⟨n, sa, ra⟩ ⟨n, sb, rb⟩ k)
  have hA := colA_length ⟨n, sa, ra⟩ ⟨n, sb, rb⟩ k
  have hB := colB_length ⟨n, sa, ra⟩ ⟨n, sb, rb⟩ k
  have ib := iso_both h k
  revert hA hB ib
  generalize colA ⟨n, sa, ra⟩ ⟨n, sb, rb⟩ k = A
  generalize colB ⟨n, sa, ra⟩ ⟨n, sb, rb⟩ k = B
  intro hA hB ib
  have hA : A.length = n := hA
  have hB : B.length = n := hB
  have eA : A = (List.range n).map fun i => A.getD i 0 := ext_getD (by simp [hA]) fun i hi => by simp [List.getD_eq_getElem?_getD, show i < n by omega]
  have eB : B = ((List.range n).map fun i => o.getD i 0).map fun i => A.getD i 0 := ext_getD (by simp [hB]) fun i hi => by
    have hi : i < n := by omega
    rw [ib i hi]
    simp [List.getD_eq_getElem?_getD, hi]
  rw [eB]
  have hp := ((iso_perm h).map fun i => A.getD i 0).symm
  rw [← eA] at hp
  exact hp
theorem iso_one : ∀ k i, i < n → (cols [⟨n, sb, rb⟩] k).getD i 0 = (cols [⟨n, sa, ra⟩] k).getD (o.getD i 0) 0 := by
  have core : ∀ (f g : Nat → List Int), (∀ i, i < n → g i = f (o.getD i 0)) → ∀ i, i < n → (nums ((List.range n).map g)).getD i 0 = (nums ((List.range n).map f)).getD (o.getD i 0) 0 := by
    intro f g hfg i hi
    have e1 : ((List.range n).map g)[i]? = some (g i) := by rw [List.getElem?_map, List.getElem?_range hi]; rfl
    have e2 : ((List.range n).map f)[o.getD i 0]? = some (f (o.getD i 0)) := by rw [List.getElem?_map, List.getElem?_range (h.lt i hi)]; rfl
    rw [nums_at e1, nums_at e2, hfg i hi, num_congr (L := (List.range n).map g) (M := (List.range n).map f) (fun x => ?_)]
    constructor
    · intro hx
      obtain ⟨j, hj, rfl⟩ := List.mem_map.1 hx
      have hj := List.mem_range.1 hj
      rw [hfg j hj]
      exact List.mem_map.2 ⟨_, List.mem_range.2 (h.lt j hj), rfl⟩
    · intro hx
      obtain ⟨j, hj, rfl⟩ := List.mem_map.1 hx
      obtain ⟨i', hi', e⟩ := h.onto (List.mem_range.1 hj)
      exact List.mem_map.2 ⟨i', List.mem_range.2 hi', by rw [hfg i' hi', e]⟩
  intro k
  induction k with
  | zero =>
    intro i hi
    simp only [cols, firsts, List.append_nil]
    exact core (d0 ⟨n, sa, ra⟩) (d0 ⟨n, sb, rb⟩) (fun i hi => iso_d0 h hi) i hi
  | succ k ih =>
    intro i hi
    have la : (cols [⟨n, sa, ra⟩] k).length = n := one_len _ k
    have lb : (cols [⟨n, sb, rb⟩] k).length = n := one_len _ k
    simp only [cols, nexts, List.append_nil]
    refine core _ _ (fun i hi => ?_) i hi
    rw [List.take_of_length_le (by rw [lb]; exact Nat.le_refl _), List.take_of_length_le (by rw [la]; exact Nat.le_refl _)]
    exact iso_desc h ih hi
end
end Go.Proofs.YtpcnoiigbmiejaaGreatDoor.colq

/- ColoursOf and ColourCounts of the program. -/
namespace Go.Proofs.YtpcnoiigbmiejaaGreatDoor.coli
set_option linter.unusedVariables false
set_option linter.unusedSimpArgs false
open Go.ChangeShapes Go.WideShapes Go.ChangeAt Go.RowKit
open Go.Proofs.YtpcnoiigbmiejaaGreatDoor.lib Go.Proofs.YtpcnoiigbmiejaaGreatDoor.st Go.Proofs.YtpcnoiigbmiejaaGreatDoor.base Go.Proofs.YtpcnoiigbmiejaaGreatDoor.col Go.Proofs.YtpcnoiigbmiejaaGreatDoor.colp Go.Proofs.YtpcnoiigbmiejaaGreatDoor.sll Go.Proofs.YtpcnoiigbmiejaaGreatDoor.both Go.Proofs.YtpcnoiigbmiejaaGreatDoor.cmp Go.Proofs.YtpcnoiigbmiejaaGreatDoor.less Go.Proofs.YtpcnoiigbmiejaaGreatDoor.specc Go.Proofs.YtpcnoiigbmiejaaGreatDoor.specd Go.Proofs.YtpcnoiigbmiejaaGreatDoor.colsa Go.Proofs.YtpcnoiigbmiejaaGreatDoor.flow Go.Proofs.YtpcnoiigbmiejaaGreatDoor.descr

theorem strs_one {w : World} {H N : Nat} {s r : ByteArray} (h : Box 24 w H N s r) (hf : Fit ⟨N, s, r⟩) : Strs w H [⟨N, s, r⟩] := by
  obtain ⟨h0, h1, h2⟩ := h.c
  refine ⟨h.lt, fun i a hi => ?_, fun a ha => ?_⟩
  · match i, hi with
    | 0, hi => simp only [List.getElem?_cons_zero, Option.some.injEq] at hi; subst hi; exact ⟨h0, h1, h2⟩
    | i + 1, hi => simp at hi
  · rw [List.mem_singleton.1 ha]; exact hf
theorem strs_two {w : World} {H N M : Nat} {s r t q : ByteArray} (hH : w.heap.size = H) (hf : Fit ⟨N, s, r⟩) (hf2 : Fit ⟨M, t, q⟩) : Strs (w.alloc (.cells #[.int .i64 N, .string s, .string r, .int .i64 M, .string t, .string q] 24)) H [⟨N, s, r⟩, ⟨M, t, q⟩] := by
  subst hH
  have hc : ∀ j u, (#[Value.int .i64 N, .string s, .string r, .int .i64 M, .string t, .string q] : Array Value)[j]? = some u → (w.alloc (.cells #[.int .i64 N, .string s, .string r, .int .i64 M, .string t, .string q] 24)).cell? ⟨w.heap.size, j, none⟩ = some u := fun j u hj => by
    rw [cell_of_row _ _ j _ _ (0, 0) (heap_alloc_new w _)]; exact hj
  refine ⟨by simp, fun i a hi => ?_, fun a ha => ?_⟩
  · match i, hi with
    | 0, hi => simp only [List.getElem?_cons_zero, Option.some.injEq] at hi; subst hi; exact ⟨hc 0 _ rfl, hc 1 _ rfl, hc 2 _ rfl⟩
    | 1, hi => simp only [List.getElem?_cons_succ, List.getElem?_cons_zero, Option.some.injEq] at hi; subst hi; exact ⟨hc 3 _ rfl, hc 4 _ rfl, hc 5 _ rfl⟩
    | i + 2, hi => simp at hi
  · rcases List.mem_cons.1 ha with rfl | ha
    · exact hf
    · rw [List.mem_singleton.1 ha]; exact hf2
/-- coloursAfter of one structure, of two -/
theorem after_one (w : World) (H N R : Nat) (s r : ByteArray) (hH : w.heap.size = H) (hf : Fit ⟨N, s, r⟩) (hR : R ≤ 100) :
    Calls Tryz.prog 47 #[.slice (some ⟨H, 0, none⟩) 1 1, .int .i64 R] (w.alloc (.cells #[.int .i64 N, .string s, .string r] 24)) fun e w' => ∃ u, e = .returned u ∧ OwnI 3 w' w.heap.size u (cols [⟨N, s, r⟩] R) ∧ Below w.heap.size w w' := by
  have AL : Below w.heap.size w (w.alloc (.cells #[.int .i64 N, .string s, .string r] 24)) := (Below.refl _ _).alloc (Nat.le_refl _) _
  refine (after_any _ H 1 R [⟨N, s, r⟩] (strs_one (Box.new _ _ _ hH _ _ _) hf) rfl (Nat.le_refl _) (by omega) hR).mono ?_
  rintro e w' ⟨u, he, ho, hb⟩
  exact ⟨u, he, ho.mono AL.size, AL.trans (hb.mono AL.size)⟩
theorem after_two (w : World) (H N M R : Nat) (s r t q : ByteArray) (hH : w.heap.size = H) (hf : Fit ⟨N, s, r⟩) (hf2 : Fit ⟨M, t, q⟩) (hR : R ≤ 100) :
    Calls Tryz.prog 47 #[.slice (some ⟨H, 0, none⟩) 2 2, .int .i64 R] (w.alloc (.cells #[.int .i64 N, .string s, .string r, .int .i64 M, .string t, .string q] 24)) fun e w' => ∃ u, e = .returned u ∧ OwnI 3 w' w.heap.size u (cols [⟨N, s, r⟩, ⟨M, t, q⟩] R) ∧ Below w.heap.size w w' := by
  have AL : Below w.heap.size w (w.alloc (.cells #[.int .i64 N, .string s, .string r, .int .i64 M, .string t, .string q] 24)) := (Below.refl _ _).alloc (Nat.le_refl _) _
  refine (after_any _ H 2 R [⟨N, s, r⟩, ⟨M, t, q⟩] (strs_two hH hf hf2) rfl (by omega) (Nat.le_refl _) hR).mono ?_
  rintro e w' ⟨u, he, ho, hb⟩
  exact ⟨u, he, ho.mono AL.size, AL.trans (hb.mono AL.size)⟩

set_option maxHeartbeats 800000 in
theorem implColoursOf_any (n : Int) (s r : ByteArray) (c : Int) (w : World) (hs : s.size ≤ 9223372036854775807) (hr : r.size ≤ 9223372036854775807) :
    Calls Tryz.prog 18 #[.agg #[.int .i64 n, .string s, .string r], .int .i64 c] w fun e w' => ∃ v, e = .returned v ∧ OwnI 3 w' w.heap.size v (colsR n s r c) ∧ Below w.heap.size w w' := by
  have BX : Hid (Box 24 (w.alloc (.cells #[.int .i64 n, .string s, .string r] 24)) w.heap.size n s r) := Box.new _ w _ rfl n s r
  have AW : Hid (Below w.heap.size w (w.alloc (.cells #[.int .i64 n, .string s, .string r] 24))) := (Below.refl _ _).alloc (Nat.le_refl _) _
  go_enter Tryz.func18, Tryz.ntmps18
  go_wp2_with fail
  refine (isStructure_any n s r _ hs hr).mono ?_
  rintro e w1 ⟨rfl, hw⟩
  have AW1 : Hid (Below w.heap.size w w1) := AW.out.trans (hw.mono (by simp))
  obtain ⟨c0, c1, c2⟩ := (BX.out.below hw (by simp)).c
  clear hw BX AW
  cases hv : validB n s r with
  | false =>
    have HE : Hid (colsR n s r c = []) := colsR_no (by rw [hv]; simp)
    clear hv
    go_wp2
    go_ret
    exact ⟨_, rfl, by rw [HE.out]; exact OwnI.nil _ _ _, AW1.out⟩
  | true =>
    by_cases h1 : c < 0
    · have HE : Hid (colsR n s r c = []) := colsR_no (by rw [show basic.inB c 0 8 = false from decide_eq_false (by omega)]; simp)
      clear hv
      go_wp2
      go_ret
      exact ⟨_, rfl, by rw [HE.out]; exact OwnI.nil _ _ _, AW1.out⟩
    by_cases h2 : 8 < c
    · have HE : Hid (colsR n s r c = []) := colsR_no (by rw [show basic.inB c 0 8 = false from decide_eq_false (by omega)]; simp)
      clear hv
      go_wp2
      go_ret
      exact ⟨_, rfl, by rw [HE.out]; exact OwnI.nil _ _ _, AW1.out⟩
    obtain ⟨N, rfl, hN1, hN8, hsN, hrN⟩ := valid_size hv
    obtain ⟨C, rfl, hC⟩ : ∃ C : Nat, c = C ∧ C ≤ 8 := ⟨c.toNat, by omega, by omega⟩
    have HE : Hid (colsR N s r C = cols [⟨N, s, r⟩] C) := colsR_yes hv hC
    have HH : Hid (Fit ⟨N, s, r⟩) := ⟨hN1, hN8, hsN, hrN⟩
    have t1 : ((C : Int) > 8) = False := by simp; omega
    clear hv hsN hrN h1 h2
    go_wp2_with fail
    refine (after_one _ _ N C s r rfl HH.out (by omega)).mono ?_
    rintro e w2 ⟨v, rfl, ho, hb⟩
    have R : Hid (OwnI 3 w2 w.heap.size v (colsR N s r C) ∧ Below w.heap.size w w2) := ⟨by rw [HE.out]; exact ho.mono AW1.out.size, AW1.out.trans (hb.mono AW1.out.size)⟩
    clear ho hb c0 c1 c2 t1
    go_wp2
    go_ret
    exact ⟨_, rfl, R.out⟩

end Go.Proofs.YtpcnoiigbmiejaaGreatDoor.coli
