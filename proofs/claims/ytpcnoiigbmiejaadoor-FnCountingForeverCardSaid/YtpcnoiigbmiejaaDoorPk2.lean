/- Several texts in one: ColP, Col. -/
import Derived.Test.YtpcnoiigbmiejaaDoorLib
import Derived.Test.YtpcnoiigbmiejaaDoorBase
/- Numbers by order: the place of each list among all different ones. Plain words, no program in sight. -/
namespace Go.Proofs.YtpcnoiigbmiejaaDoor.colp
set_option linter.unusedVariables false
set_option linter.unusedSimpArgs false

/-- alphabetical order of lists of numbers -/
def lessL : List Int → List Int → Bool
  | [], [] => false
  | [], _ :: _ => true
  | _ :: _, [] => false
  | a :: l, b :: m => if a = b then lessL l m else decide (a < b)
theorem less_irr : ∀ l, lessL l l = false
  | [] => rfl
  | a :: l => by rw [lessL, if_pos rfl]; exact less_irr l
theorem less_trans : ∀ {l m k : List Int}, lessL l m = true → lessL m k = true → lessL l k = true
  | [], [], _, h, _ => by simp [lessL] at h
  | [], _ :: _, [], _, h => by simp [lessL] at h
  | [], _ :: _, _ :: _, _, _ => rfl
  | _ :: _, [], _, h, _ => by simp [lessL] at h
  | _ :: _, _ :: _, [], _, h => by simp [lessL] at h
  | a :: l, b :: m, c :: k, h1, h2 => by
    rw [lessL] at h1 h2 ⊢
    by_cases e1 : a = b
    · subst e1
      rw [if_pos rfl] at h1
      by_cases e2 : a = c
      · rw [if_pos e2] at h2 ⊢; exact less_trans h1 h2
      · rw [if_neg e2] at h2 ⊢; exact h2
    · rw [if_neg e1] at h1
      have h1 := of_decide_eq_true h1
      by_cases e2 : b = c
      · subst e2; rw [if_neg e1]; exact decide_eq_true h1
      · rw [if_neg e2] at h2
        have h2 := of_decide_eq_true h2
        rw [if_neg (by omega)]; exact decide_eq_true (by omega)
theorem less_tri : ∀ {l m : List Int}, lessL l m = false → lessL m l = false → l = m
  | [], [], _, _ => rfl
  | [], _ :: _, h, _ => by simp [lessL] at h
  | _ :: _, [], _, h => by simp [lessL] at h
  | a :: l, b :: m, h1, h2 => by
    rw [lessL] at h1 h2
    by_cases e : a = b
    · subst e
      rw [if_pos rfl] at h1 h2
      rw [less_tri h1 h2]
    · rw [if_neg e] at h1
      rw [if_neg (fun h => e h.symm)] at h2
      have := of_decide_eq_false h1
      have := of_decide_eq_false h2
      omega
theorem less_asymm {l m : List Int} (h : lessL l m = true) : lessL m l = false := by
  cases h2 : lessL m l with
  | false => rfl
  | true => have := less_trans h h2; rw [less_irr] at this; cases this

/-! counting of what is different -/
theorem len_le_of_subset {α : Type} [DecidableEq α] : ∀ {A B : List α}, A.Nodup → (∀ x, x ∈ A → x ∈ B) → A.length ≤ B.length
  | [], _, _, _ => by simp
  | a :: A, B, hn, hs => by
    obtain ⟨h1, h2⟩ := List.nodup_cons.1 hn
    have ha : a ∈ B := hs a List.mem_cons_self
    have : A.length ≤ (B.erase a).length := len_le_of_subset h2 fun x hx => (List.mem_erase_of_ne (fun e : x = a => h1 (by rw [← e]; exact hx))).2 (hs x (List.mem_cons_of_mem _ hx))
    have hl := List.length_erase_of_mem ha
    have := List.length_pos_of_mem ha
    simp only [List.length_cons]; omega
theorem len_lt_of_subset {α : Type} [DecidableEq α] {A B : List α} (hn : A.Nodup) (hs : ∀ x, x ∈ A → x ∈ B) {b : α} (hb : b ∈ B) (hb' : b ∉ A) : A.length < B.length := by
  have := len_le_of_subset (A := b :: A) (B := B) (List.nodup_cons.2 ⟨hb', hn⟩) fun x hx => by
    rcases List.mem_cons.1 hx with rfl | h
    · exact hb
    · exact hs x h
  simp only [List.length_cons] at this; omega
theorem len_eq_of_same {α : Type} [DecidableEq α] {A B : List α} (ha : A.Nodup) (hb : B.Nodup) (h : ∀ x, x ∈ A ↔ x ∈ B) : A.length = B.length :=
  Nat.le_antisymm (len_le_of_subset ha fun x => (h x).1) (len_le_of_subset hb fun x => (h x).2)

/-- one more of those before d, if it is not yet there -/
def seeOne (d : List Int) (s : List (List Int)) (x : List Int) : List (List Int) := if lessL x d && s.all (fun y => !decide (y = x)) then s ++ [x] else s
/-- those before d, each once -/
def seenL (d : List Int) (L : List (List Int)) : List (List Int) := L.foldl (seeOne d) []
theorem seen_snoc (d : List Int) (L : List (List Int)) (x : List Int) : seenL d (L ++ [x]) = seeOne d (seenL d L) x := by simp [seenL]
theorem seen_fold {d : List Int} : ∀ (L s : List (List Int)), s.Nodup → (∀ x, x ∈ s → lessL x d = true) → (L.foldl (seeOne d) s).Nodup ∧ ∀ x, x ∈ L.foldl (seeOne d) s ↔ x ∈ s ∨ (x ∈ L ∧ lessL x d = true)
  | [], s, hn, _ => ⟨hn, fun x => by simp⟩
  | a :: L, s, hn, hs => by
    rw [List.foldl_cons]
    by_cases h : (lessL a d && s.all (fun y => !decide (y = a))) = true
    · have e : seeOne d s a = s ++ [a] := by rw [seeOne, if_pos h]
      rw [Bool.and_eq_true] at h
      have ha : a ∉ s := fun hm => by have := List.all_eq_true.1 h.2 a hm; simp at this
      rw [e]
      obtain ⟨h1, h2⟩ := seen_fold (d := d) L (s ++ [a]) (by rw [List.nodup_append]; refine ⟨hn, by simp, fun x hx y hy => ?_⟩; simp at hy; subst hy; exact fun e => ha (e ▸ hx)) (fun x hx => by
        rcases List.mem_append.1 hx with hx | hx
        · exact hs x hx
        · simp at hx; subst hx; exact h.1)
      refine ⟨h1, fun x => ?_⟩
      rw [h2]
      constructor
      · rintro (hx | hx)
        · rcases List.mem_append.1 hx with hx | hx
          · exact .inl hx
          · simp at hx; subst hx; exact .inr ⟨List.mem_cons_self, h.1⟩
        · exact .inr ⟨List.mem_cons_of_mem _ hx.1, hx.2⟩
      · rintro (hx | ⟨hx, hl⟩)
        · exact .inl (List.mem_append_left _ hx)
        · rcases List.mem_cons.1 hx with rfl | hx
          · exact .inl (List.mem_append_right _ (by simp))
          · exact .inr ⟨hx, hl⟩
    · have e : seeOne d s a = s := by rw [seeOne, if_neg h]
      rw [e]
      obtain ⟨h1, h2⟩ := seen_fold (d := d) L s hn hs
      refine ⟨h1, fun x => ?_⟩
      rw [h2]
      constructor
      · rintro (hx | hx)
        · exact .inl hx
        · exact .inr ⟨List.mem_cons_of_mem _ hx.1, hx.2⟩
      · rintro (hx | ⟨hx, hl⟩)
        · exact .inl hx
        · rcases List.mem_cons.1 hx with rfl | hx
          · left
            have hall : ¬ s.all (fun y => !decide (y = x)) = true := fun hh => h (by rw [Bool.and_eq_true]; exact ⟨hl, hh⟩)
            rw [List.all_eq_true] at hall
            simp only [Bool.not_eq_true', decide_eq_false_iff_not] at hall
            by_cases hm : x ∈ s
            · exact hm
            · exact absurd (fun y hy (e : y = x) => hm (by rw [← e]; exact hy)) hall
          · exact .inr ⟨hx, hl⟩
theorem seen_nodup (d : List Int) (L : List (List Int)) : (seenL d L).Nodup := (seen_fold L [] (by simp) (by simp)).1
theorem mem_seen {d : List Int} {L : List (List Int)} {x : List Int} : x ∈ seenL d L ↔ x ∈ L ∧ lessL x d = true := by
  have := (seen_fold (d := d) L [] (by simp) (by simp)).2 x
  simpa [seenL] using this
/-- the place of d among the different ones of L -/
def num (L : List (List Int)) (d : List Int) : Nat := (seenL d L).length
theorem num_congr {L M : List (List Int)} (h : ∀ x, x ∈ L ↔ x ∈ M) (d : List Int) : num L d = num M d :=
  len_eq_of_same (seen_nodup _ _) (seen_nodup _ _) fun x => by rw [mem_seen, mem_seen, h]
theorem num_lt {L : List (List Int)} {d e : List Int} (hd : d ∈ L) (h : lessL d e = true) : num L d < num L e :=
  len_lt_of_subset (seen_nodup _ _) (fun x hx => mem_seen.2 ⟨(mem_seen.1 hx).1, less_trans (mem_seen.1 hx).2 h⟩) (b := d) (mem_seen.2 ⟨hd, h⟩) fun hm => by have := (mem_seen.1 hm).2; rw [less_irr] at this; cases this
theorem num_lt_iff {L : List (List Int)} {d e : List Int} (hd : d ∈ L) (he : e ∈ L) : num L d < num L e ↔ lessL d e = true := by
  refine ⟨fun h => ?_, num_lt hd⟩
  cases hl : lessL d e with
  | true => rfl
  | false =>
    cases hr : lessL e d with
    | true => have := num_lt he hr; omega
    | false => rw [less_tri hl hr] at h; omega
theorem num_inj {L : List (List Int)} {d e : List Int} (hd : d ∈ L) (he : e ∈ L) (h : num L d = num L e) : d = e := by
  cases hl : lessL d e with
  | true => have := num_lt hd hl; omega
  | false =>
    cases hr : lessL e d with
    | true => have := num_lt he hr; omega
    | false => exact less_tri hl hr
theorem num_len {L : List (List Int)} {d : List Int} (hd : d ∈ L) : num L d < L.length :=
  len_lt_of_subset (seen_nodup _ _) (fun _ hx => (mem_seen.1 hx).1) hd fun hm => by have := (mem_seen.1 hm).2; rw [less_irr] at this; cases this
/-- the place in a list that ascends -/
theorem num_at {L S : List (List Int)} (hS : S.Pairwise fun a b => lessL a b = true) (h : ∀ x, x ∈ S ↔ x ∈ L) {i : Nat} (hi : i < S.length) : num L S[i] = i := by
  have hnod : S.Nodup := hS.imp fun {a b} hab e => by subst e; rw [less_irr] at hab; cases hab
  have e : (S.take i).length = i := by simp; omega
  have hp := List.pairwise_iff_getElem.1 hS
  refine Eq.trans ?_ e
  refine len_eq_of_same (seen_nodup _ _) (hnod.sublist (List.take_sublist _ _)) fun x => ?_
  rw [mem_seen, ← h]
  constructor
  · rintro ⟨hx, hl⟩
    obtain ⟨j, hj, rfl⟩ := List.getElem_of_mem hx
    by_cases hji : j < i
    · exact List.mem_iff_getElem.2 ⟨j, by simp; omega, by simp⟩
    · by_cases e : j = i
      · subst e; rw [less_irr] at hl; cases hl
      · have := less_asymm (hp i j hi hj (by omega)); rw [this] at hl; cases hl
  · intro hx
    obtain ⟨j, hj, rfl⟩ := List.getElem_of_mem hx
    simp at hj
    rw [List.getElem_take]
    exact ⟨List.getElem_mem _, hp j i (by omega) hi (by omega)⟩
end Go.Proofs.YtpcnoiigbmiejaaDoor.colp

/- Refinement of colours, in plain words. -/
namespace Go.Proofs.YtpcnoiigbmiejaaDoor.col
set_option linter.unusedVariables false
set_option linter.unusedSimpArgs false
open Go.Proofs.YtpcnoiigbmiejaaDoor.base Go.Proofs.YtpcnoiigbmiejaaDoor.colp

/-- a structure -/
structure St : Type where
  n : Nat
  s : ByteArray
  r : ByteArray
def n01 (b : Bool) : Nat := if b then 1 else 0
/-- an element's first description -/
def d0 (a : St) (x : Nat) : List Int := [((2 * n01 (bitAt a.s x) + n01 (bitAt a.r (x * a.n + x)) : Nat) : Int)]
/-- how two elements are related -/
def kindOf (a : St) (x y : Nat) : Nat := 2 * n01 (bitAt a.r (x * a.n + y)) + n01 (bitAt a.r (y * a.n + x))
def way (a : St) (c : List Int) (x k m : Nat) : List Int := ((List.range m).filter fun y => y != x && kindOf a x y == k).map fun y => c.getD y 0
def sortI (l : List Int) : List Int := l.mergeSort fun x y => decide (x ≤ y)
def wayOut (l : List Int) : List Int := (l.length : Int) :: sortI l
/-- the description of an element by the colours of all -/
def descTo (a : St) (c : List Int) (x k : Nat) : List Int := c.getD x 0 :: (List.range k).flatMap fun j => wayOut (way a c x j a.n)
def desc (a : St) (c : List Int) (x : Nat) : List Int := descTo a c x 4
def firsts : List St → List (List Int)
  | [] => []
  | a :: As => (List.range a.n).map (d0 a) ++ firsts As
def nexts : List St → List Int → List (List Int)
  | [], _ => []
  | a :: As, c => (List.range a.n).map (desc a (c.take a.n)) ++ nexts As (c.drop a.n)
def nums (L : List (List Int)) : List Int := L.map fun d => ((num L d : Nat) : Int)
/-- the colours after some rounds -/
def cols (As : List St) : Nat → List Int
  | 0 => nums (firsts As)
  | k + 1 => nums (nexts As (cols As k))
def total : List St → Nat
  | [] => 0
  | a :: As => a.n + total As
theorem firsts_len : ∀ As, (firsts As).length = total As
  | [] => rfl
  | a :: As => by simp [firsts, total, firsts_len As]
theorem nexts_len : ∀ (As : List St) (c : List Int), (nexts As c).length = total As
  | [], _ => rfl
  | a :: As, c => by simp [nexts, total, nexts_len As]
theorem nums_len (L : List (List Int)) : (nums L).length = L.length := by simp [nums]
theorem cols_len (As : List St) : ∀ k, (cols As k).length = total As
  | 0 => by rw [cols, nums_len, firsts_len]
  | k + 1 => by rw [cols, nums_len, nexts_len]

/-! elements of lists of numbers -/
theorem nums_get {L : List (List Int)} {i : Nat} (h : i < L.length) : (nums L).getD i 0 = ((num L L[i] : Nat) : Int) := by
  rw [List.getD_eq_getElem?_getD, nums, List.getElem?_map, List.getElem?_eq_getElem h]; rfl
theorem nums_eq {L : List (List Int)} {i j : Nat} (hi : i < L.length) (hj : j < L.length) : (nums L).getD i 0 = (nums L).getD j 0 ↔ L[i] = L[j] := by
  rw [nums_get hi, nums_get hj]
  constructor
  · intro h; exact num_inj (List.getElem_mem _) (List.getElem_mem _) (by omega)
  · intro h; rw [h]
theorem nums_lt {L : List (List Int)} {i j : Nat} (hi : i < L.length) (hj : j < L.length) : (nums L).getD i 0 < (nums L).getD j 0 ↔ lessL L[i] L[j] = true := by
  rw [nums_get hi, nums_get hj, ← num_lt_iff (List.getElem_mem hi) (List.getElem_mem hj)]
  omega
theorem nums_range {L : List (List Int)} {i : Nat} (h : i < L.length) : 0 ≤ (nums L).getD i 0 ∧ (nums L).getD i 0 < L.length := by
  rw [nums_get h]
  have := num_len (List.getElem_mem h)
  omega
theorem nums_append (L : List (List Int)) : nums (L ++ L) = nums L ++ nums L := by
  have e : ∀ d, num (L ++ L) d = num L d := fun d => num_congr (fun x => by simp) d
  simp only [nums, List.map_append, e]
/-- each smaller number is taken, too -/
theorem num_onto {L : List (List Int)} {d : List Int} (hd : d ∈ L) {m : Nat} (hm : m ≤ num L d) : ∃ e, e ∈ L ∧ num L e = m := by
  by_cases h : m = num L d
  · exact ⟨d, hd, h.symm⟩
  · have hlt : m < num L d := by omega
    by_cases hx : m ∈ (seenL d L).map (num L)
    · obtain ⟨e, he, h⟩ := List.mem_map.1 hx
      exact ⟨e, (mem_seen.1 he).1, h⟩
    · exfalso
      have hn : ((seenL d L).map (num L)).Nodup := by
        rw [List.Nodup, List.pairwise_map]
        refine List.Pairwise.imp_of_mem (fun {a b} ha hb hab => ?_) (seen_nodup d L)
        exact fun e => hab (num_inj (mem_seen.1 ha).1 (mem_seen.1 hb).1 e)
      have := len_lt_of_subset (B := List.range (num L d)) hn (fun x hx => by
        obtain ⟨e, he, rfl⟩ := List.mem_map.1 hx
        exact List.mem_range.2 (num_lt (mem_seen.1 he).1 (mem_seen.1 he).2)) (List.mem_range.2 hlt) hx
      rw [List.length_map, List.length_range] at this
      have : (seenL d L).length = num L d := rfl
      omega

/-- how many colours there are -/
def mostTo (c : List Int) (k : Nat) : Int := (c.take k).foldl (fun m x => max m (x + 1)) 0
def most (c : List Int) : Int := c.foldl (fun m x => max m (x + 1)) 0
theorem fold_max : ∀ (c : List Int) (m : Int), m ≤ c.foldl (fun m x => max m (x + 1)) m ∧ (∀ x, x ∈ c → x + 1 ≤ c.foldl (fun m x => max m (x + 1)) m) ∧ (c.foldl (fun m x => max m (x + 1)) m = m ∨ ∃ x, x ∈ c ∧ c.foldl (fun m x => max m (x + 1)) m = x + 1)
  | [], m => ⟨by simp, by simp, .inl rfl⟩
  | y :: c, m => by
    rw [List.foldl_cons]
    obtain ⟨h1, h2, h3⟩ := fold_max c (max m (y + 1))
    refine ⟨by omega, fun x hx => ?_, ?_⟩
    · rcases List.mem_cons.1 hx with rfl | hx
      · omega
      · exact h2 x hx
    · rcases h3 with h | ⟨x, hx, h⟩
      · by_cases hm : m ≤ y + 1
        · exact .inr ⟨y, List.mem_cons_self, by rw [h]; omega⟩
        · exact .inl (by rw [h]; omega)
      · exact .inr ⟨x, List.mem_cons_of_mem _ hx, h⟩
theorem most_ge {c : List Int} {x : Int} (h : x ∈ c) : x + 1 ≤ most c := (fold_max c 0).2.1 x h
theorem most_nonneg (c : List Int) : 0 ≤ most c := (fold_max c 0).1
theorem most_at {c : List Int} (h : c ≠ []) (h0 : ∀ x, x ∈ c → 0 ≤ x) : ∃ x, x ∈ c ∧ most c = x + 1 := by
  rcases (fold_max c 0).2.2 with e | h2
  · obtain ⟨y, hy⟩ := List.exists_mem_of_ne_nil c h
    have := most_ge hy
    have := h0 y hy
    have e2 : most c = 0 := e
    omega
  · exact h2
theorem mem_nums {L : List (List Int)} {x : Int} : x ∈ nums L ↔ ∃ d, d ∈ L ∧ ((num L d : Nat) : Int) = x := by simp [nums]
/-- the colours are the numbers from 0 to one less than most -/
theorem nums_all {L : List (List Int)} (hL : L ≠ []) {x : Int} : x ∈ nums L ↔ 0 ≤ x ∧ x < most (nums L) := by
  constructor
  · intro h
    have := most_ge h
    obtain ⟨d, _, e⟩ := mem_nums.1 h
    omega
  · rintro ⟨h0, h1⟩
    obtain ⟨y, hy, e⟩ := most_at (c := nums L) (by simpa [nums] using hL) (fun x hx => by obtain ⟨d, _, e⟩ := mem_nums.1 hx; omega)
    obtain ⟨d, hd, e2⟩ := mem_nums.1 hy
    obtain ⟨e', he', h⟩ := num_onto hd (m := x.toNat) (by omega)
    exact mem_nums.2 ⟨e', he', by omega⟩
theorem most_nums_le (L : List (List Int)) : most (nums L) ≤ L.length := by
  rcases (fold_max (nums L) 0).2.2 with e | ⟨x, hx, e⟩
  · have e2 : most (nums L) = 0 := e
    omega
  · obtain ⟨d, hd, h⟩ := mem_nums.1 hx
    have := num_len hd
    have e2 : most (nums L) = x + 1 := e
    omega

/-! a round more -/
theorem nexts_head : ∀ (As : List St) (c : List Int) {i : Nat}, c.length = total As → i < total As → ∃ t, (nexts As c)[i]? = some (c.getD i 0 :: t)
  | [], _, i, _, h => by simp [total] at h
  | a :: As, c, i, hc, hi => by
    rw [total] at hc hi
    rw [nexts]
    by_cases h : i < a.n
    · rw [List.getElem?_append_left (by simpa using h)]
      refine ⟨(List.range 4).flatMap fun j => wayOut (way a (c.take a.n) i j a.n), ?_⟩
      rw [List.getElem?_map, List.getElem?_range h]
      simp only [Option.map_some, desc, descTo]
      simp only [List.getD_eq_getElem?_getD, List.getElem?_take, if_pos h]
    · rw [List.getElem?_append_right (by simp; omega)]
      obtain ⟨t, ht⟩ := nexts_head As (c.drop a.n) (i := i - a.n) (by simp; omega) (by omega)
      refine ⟨t, ?_⟩
      simp only [List.length_map, List.length_range]
      rw [ht, List.getD_eq_getElem?_getD, List.getElem?_drop, ← List.getD_eq_getElem?_getD, show a.n + (i - a.n) = i by omega]
theorem cols_refine {As : List St} {k i j : Nat} (hi : i < total As) (hj : j < total As) (h : (cols As (k + 1)).getD i 0 = (cols As (k + 1)).getD j 0) : (cols As k).getD i 0 = (cols As k).getD j 0 := by
  have li : i < (nexts As (cols As k)).length := by rw [nexts_len]; exact hi
  have lj : j < (nexts As (cols As k)).length := by rw [nexts_len]; exact hj
  have h2 := (nums_eq li lj).1 h
  obtain ⟨t, ht⟩ := nexts_head As (cols As k) (cols_len As k) hi
  obtain ⟨u, hu⟩ := nexts_head As (cols As k) (cols_len As k) hj
  rw [List.getElem?_eq_getElem li] at ht
  rw [List.getElem?_eq_getElem lj] at hu
  rw [Option.some.inj ht, Option.some.inj hu] at h2
  exact (List.cons.inj h2).1
/-- the colours before are known by those after -/
theorem cols_map (As : List St) (k : Nat) : ∃ g : Int → Int, cols As k = (cols As (k + 1)).map g := by
  obtain ⟨C, hC⟩ : ∃ C, C = cols As (k + 1) := ⟨_, rfl⟩
  obtain ⟨c, hc⟩ : ∃ c, c = cols As k := ⟨_, rfl⟩
  have lC : C.length = total As := by rw [hC]; exact cols_len As _
  have lc : c.length = total As := by rw [hc]; exact cols_len As _
  have hr : ∀ {i j : Nat}, i < total As → j < total As → C.getD i 0 = C.getD j 0 → c.getD i 0 = c.getD j 0 := by rw [hC, hc]; exact cols_refine
  rw [← hC, ← hc]
  refine ⟨fun v => c.getD (C.idxOf v) 0, ?_⟩
  apply List.ext_getElem (by rw [List.length_map, lC, lc])
  intro i h1 h2
  rw [List.getElem_map]
  have hi : i < C.length := by omega
  have hm : C[i] ∈ C := List.getElem_mem hi
  have hlt := List.idxOf_lt_length_of_mem hm
  have e := hr (i := i) (j := C.idxOf C[i]) (by omega) (by omega) (by
    rw [List.getD_eq_getElem?_getD, List.getElem?_eq_getElem hi, List.getD_eq_getElem?_getD, List.getElem?_eq_getElem hlt, Option.getD_some, Option.getD_some, List.getElem_idxOf])
  rw [← e, List.getD_eq_getElem?_getD, List.getElem?_eq_getElem h1, Option.getD_some]
theorem firsts_ne {As : List St} (h : 0 < total As) : firsts As ≠ [] := fun e => by have := firsts_len As; rw [e] at this; simp at this; omega
theorem nexts_ne {As : List St} {c : List Int} (h : 0 < total As) : nexts As c ≠ [] := fun e => by have := nexts_len As c; rw [e] at this; simp at this; omega
theorem cols_all {As : List St} (h : 0 < total As) (k : Nat) {x : Int} : x ∈ cols As k ↔ 0 ≤ x ∧ x < most (cols As k) := by
  cases k with
  | zero => exact nums_all (firsts_ne h)
  | succ k => exact nums_all (nexts_ne h)
theorem cols_most_le (As : List St) (k : Nat) : most (cols As k) ≤ total As := by
  cases k with
  | zero => rw [← firsts_len As]; exact most_nums_le _
  | succ k => rw [← nexts_len As (cols As k)]; exact most_nums_le _
/-- there are no fewer colours after a round more -/
theorem most_mono {As : List St} (h : 0 < total As) (k : Nat) : most (cols As k) ≤ most (cols As (k + 1)) := by
  obtain ⟨g, hg⟩ := cols_map As k
  have hA := most_nonneg (cols As k)
  have hB := most_nonneg (cols As (k + 1))
  have hsub := len_le_of_subset (A := (List.range (most (cols As k)).toNat).map fun i : Nat => (i : Int)) (B := ((List.range (most (cols As (k + 1))).toNat).map fun i : Nat => g (i : Int)))
    (by rw [List.Nodup, List.pairwise_map]; exact (List.nodup_range).imp fun {a b} hab e => hab (by omega)) fun x hx => by
      obtain ⟨i, hi, rfl⟩ := List.mem_map.1 hx
      have hi := List.mem_range.1 hi
      have hm : (i : Int) ∈ cols As k := (cols_all h k).2 ⟨by omega, by omega⟩
      rw [hg] at hm
      obtain ⟨y, hy, e⟩ := List.mem_map.1 hm
      have := (cols_all h (k + 1)).1 hy
      exact List.mem_map.2 ⟨y.toNat, List.mem_range.2 (by omega), by rw [show ((y.toNat : Nat) : Int) = y by omega]; exact e⟩
  simp only [List.length_map, List.length_range] at hsub
  omega
/-- more and more colours cannot be for ever -/
theorem most_grow {As : List St} (h : 0 < total As) : ∀ k, (∀ j, j < k → most (cols As j) ≠ most (cols As (j + 1))) → (k : Int) + 1 ≤ most (cols As k)
  | 0, _ => by
    have hne : cols As 0 ≠ [] := fun e => by have := cols_len As 0; rw [e] at this; simp at this; omega
    obtain ⟨y, hy⟩ := List.exists_mem_of_ne_nil _ hne
    have := (cols_all h 0).1 hy
    omega
  | k + 1, hk => by
    have := most_grow h k fun j hj => hk j (by omega)
    have := most_mono h k
    have := hk k (by omega)
    omega
theorem stable_at {As : List St} (h : 0 < total As) (h8 : total As ≤ 8) (hk : ∀ j, j < 7 → most (cols As j) ≠ most (cols As (j + 1))) : most (cols As 7) = most (cols As 8) := by
  have h7 := most_grow h 7 hk
  have hle := cols_most_le As 8
  have h78 : most (cols As 7) ≤ most (cols As 8) := most_mono h 7
  omega

/-! two structures -/
theorem nexts_two (a : St) (c : List Int) (h : c.length = a.n) : nexts [a, a] (c ++ c) = nexts [a] c ++ nexts [a] c := by
  simp only [nexts, List.append_nil]
  rw [List.take_left' h, List.drop_left' h, List.take_of_length_le (by omega)]
theorem cols_two (a : St) : ∀ k, cols [a, a] k = cols [a] k ++ cols [a] k
  | 0 => by
    rw [cols, cols, ← nums_append]
    simp [firsts]
  | k + 1 => by
    rw [cols, cols, cols_two a k, nexts_two a _ (by rw [cols_len]; simp [total]), nums_append]

theorem sortI_perm (l : List Int) : (sortI l).Perm l := List.mergeSort_perm l _
theorem sortI_sorted (l : List Int) : (sortI l).Pairwise fun x y => x ≤ y := by
  have := List.pairwise_mergeSort (le := fun x y : Int => decide (x ≤ y)) (fun a b c h1 h2 => by simp at *; omega) (fun a b => by simp; omega) l
  exact this.imp fun {a b} h => by simpa using h
theorem sorted_eq {l m : List Int} (h : l.Pairwise fun x y => x ≤ y) (hp : l.Perm m) : l = sortI m :=
  List.Perm.eq_of_pairwise (le := fun x y => x ≤ y) (fun a b _ _ h1 h2 => by omega) h (sortI_sorted m) (hp.trans (sortI_perm m).symm)
theorem sortI_congr {l m : List Int} (h : l.Perm m) : sortI l = sortI m := sorted_eq (sortI_sorted l) ((sortI_perm l).trans h)
theorem sortI_eq_iff {l m : List Int} : sortI l = sortI m ↔ l.Perm m := ⟨fun h => (sortI_perm l).symm.trans (h ▸ sortI_perm m), sortI_congr⟩
theorem sortI_len (l : List Int) : (sortI l).length = l.length := (sortI_perm l).length_eq
/-- as many elements of each colour -/
def sameAt (a b : St) (k : Nat) : Bool := decide (((cols [a, b] k).take a.n).Perm ((cols [a, b] k).drop a.n))
theorem sameAt_pred {a b : St} {k : Nat} (h : sameAt a b (k + 1) = true) : sameAt a b k = true := by
  obtain ⟨g, hg⟩ := cols_map [a, b] k
  have h := of_decide_eq_true h
  refine decide_eq_true ?_
  rw [hg, ← List.map_take, ← List.map_drop]
  exact h.map g
theorem sameAt_down {a b : St} {j : Nat} : ∀ {k : Nat}, j ≤ k → sameAt a b k = true → sameAt a b j = true
  | 0, hj, h => by obtain rfl : j = 0 := by omega
                   exact h
  | k + 1, hj, h => by
    by_cases e : j = k + 1
    · subst e; exact h
    · exact sameAt_down (k := k) (by omega) (sameAt_pred h)
/-- the first round that tells apart, of the first k; -1 if there is none -/
def roundTo (a b : St) : Nat → Int
  | 0 => -1
  | k + 1 => if roundTo a b k = -1 ∧ sameAt a b k = false then (k : Int) else roundTo a b k
theorem roundTo_cases (a b : St) : ∀ k, (roundTo a b k = -1 ∧ ∀ j, j < k → sameAt a b j = true) ∨ ∃ j : Nat, j < k ∧ roundTo a b k = (j : Int) ∧ sameAt a b j = false ∧ ∀ i, i < j → sameAt a b i = true
  | 0 => .inl ⟨rfl, fun j hj => absurd hj (Nat.not_lt_zero _)⟩
  | k + 1 => by
    rw [roundTo]
    rcases roundTo_cases a b k with ⟨h1, h2⟩ | ⟨j, hj, h1, h2, h3⟩
    · cases hs : sameAt a b k with
      | true =>
        rw [if_neg (by simp)]
        refine .inl ⟨h1, fun j hj => ?_⟩
        by_cases e : j = k
        · subst e; exact hs
        · exact h2 j (by omega)
      | false =>
        rw [if_pos ⟨h1, rfl⟩]
        exact .inr ⟨k, by omega, rfl, hs, h2⟩
    · rw [if_neg (by omega)]
      exact .inr ⟨j, by omega, h1, h2, h3⟩
theorem roundTo_none {a b : St} {k : Nat} : roundTo a b (k + 1) = -1 ↔ sameAt a b k = true := by
  constructor
  · intro h
    rcases roundTo_cases a b (k + 1) with ⟨_, h2⟩ | ⟨j, _, h1, _⟩
    · exact h2 k (by omega)
    · omega
  · intro h
    rcases roundTo_cases a b (k + 1) with ⟨h1, _⟩ | ⟨j, hj, h1, h2, _⟩
    · exact h1
    · rw [sameAt_down (j := j) (by omega) h] at h2; cases h2
theorem roundTo_at {a b : St} {k m : Nat} (hk : sameAt a b k = false) (h : ∀ i, i < k → sameAt a b i = true) (hm : k < m) : roundTo a b m = (k : Int) := by
  rcases roundTo_cases a b m with ⟨_, h2⟩ | ⟨j, hj, h1, h2, h3⟩
  · rw [h2 k hm] at hk; cases hk
  · rw [h1]
    by_cases e : j = k
    · rw [e]
    · by_cases e2 : j < k
      · rw [h j e2] at h2; cases h2
      · rw [h3 k (by omega)] at hk; cases hk
/-- how often each number below m is there -/
def counts (c : List Int) (m : Nat) : List Int := (List.range m).map fun v : Nat => ((c.count (v : Int) : Nat) : Int)
theorem counts_perm {c d : List Int} {m : Nat} (hc : ∀ x, x ∈ c → 0 ≤ x ∧ x < m) (hd : ∀ x, x ∈ d → 0 ≤ x ∧ x < m) : counts c m = counts d m ↔ c.Perm d := by
  constructor
  · intro h
    refine List.perm_iff_count.2 fun x => ?_
    by_cases hx : 0 ≤ x ∧ x < m
    · have := congrArg (fun l => l.getD x.toNat 0) h
      simp only [counts, List.getD_eq_getElem?_getD, List.getElem?_map] at this
      rw [List.getElem?_range (by omega)] at this
      simp only [Option.map_some, Option.getD_some] at this
      rw [show ((x.toNat : Nat) : Int) = x by omega] at this
      omega
    · rw [List.count_eq_zero.2 fun h => hx (hc x h), List.count_eq_zero.2 fun h => hx (hd x h)]
  · intro h
    unfold counts
    exact List.map_congr_left fun v _ => by rw [h.count_eq]
/-- a number is put into a sorted list behind all that are not greater -/
theorem sort_put {l : List Int} {p : Nat} {n : Int} (hp : p ≤ l.length) (h1 : ∀ i, i < p → (sortI l).getD i 0 ≤ n) (h2 : ∀ i, p ≤ i → i < l.length → n < (sortI l).getD i 0) : (sortI l).take p ++ [n] ++ (sortI l).drop p = sortI (l ++ [n]) := by
  refine sorted_eq ?_ ?_
  · have hs := sortI_sorted l
    have hl := sortI_len l
    rw [List.append_assoc, List.pairwise_append]
    refine ⟨hs.sublist (List.take_sublist _ _), ?_, fun a ha b hb => ?_⟩
    · rw [List.singleton_append, List.pairwise_cons]
      refine ⟨fun a ha => ?_, hs.sublist (List.drop_sublist _ _)⟩
      obtain ⟨i, hi, rfl⟩ := List.getElem_of_mem ha
      rw [List.getElem_drop]
      rw [List.length_drop] at hi
      have := h2 (p + i) (by omega) (by omega)
      rw [List.getD_eq_getElem?_getD, List.getElem?_eq_getElem (by omega), Option.getD_some] at this
      omega
    · obtain ⟨i, hi, rfl⟩ := List.getElem_of_mem ha
      rw [List.length_take] at hi
      rw [List.getElem_take]
      have hin := h1 i (by omega)
      rw [List.getD_eq_getElem?_getD, List.getElem?_eq_getElem (by omega), Option.getD_some] at hin
      rw [List.singleton_append] at hb
      rcases List.mem_cons.1 hb with rfl | hb
      · exact hin
      · obtain ⟨j, hj, rfl⟩ := List.getElem_of_mem hb
        rw [List.getElem_drop]
        rw [List.length_drop] at hj
        have := h2 (p + j) (by omega) (by omega)
        rw [List.getD_eq_getElem?_getD, List.getElem?_eq_getElem (by omega), Option.getD_some] at this
        omega
  · refine List.Perm.trans ?_ ((sortI_perm l).append_right [n])
    refine (List.perm_append_comm.append_right _).trans ?_
    rw [List.append_assoc, List.take_append_drop]
    exact List.perm_append_comm
end Go.Proofs.YtpcnoiigbmiejaaDoor.col
