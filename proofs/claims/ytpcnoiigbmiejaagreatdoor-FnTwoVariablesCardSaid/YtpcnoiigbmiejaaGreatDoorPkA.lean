/- Several texts in one: ColP, Col, Kind, Srt, Desc, Ways. -/
import Derived.Test.YtpcnoiigbmiejaaGreatDoorPk1
import Derived.Test.YtpcnoiigbmiejaaGreatDoorPk2
import Derived.Test.YtpcnoiigbmiejaaGreatDoorRows
import Derived.Deep.CutRange
/- Numbers by order: the place of each list among all different ones. Plain words, no program in sight. -/
namespace Go.Proofs.YtpcnoiigbmiejaaGreatDoor.colp
set_option linter.unusedVariables false
set_option linter.unusedSimpArgs false

/-- alphabetical order of lists of numbers -/
def lessL : List Int → List Int → Bool
  | [], [] => false
  | [], _ :: _ => true
  | _ :: _, [] => false
  | a :: l, b :: m => if a = b then lessL l m else decide (a < b)
theorem less_irr : ∀ l, lessL l l = false
  | [] => rfl
  | a :: l => by rw [lessL, if_pos rfl]; exact less_irr l
theorem less_trans : ∀ {l m k : List Int}, lessL l m = true → lessL m k = true → lessL l k = true
  | [], [], _, h, _ => by simp [lessL] at h
  | [], _ :: _, [], _, h => by simp [lessL] at h
  | [], _ :: _, _ :: _, _, _ => rfl
  | _ :: _, [], _, h, _ => by simp [lessL] at h
  | _ :: _, _ :: _, [], _, h => by simp [lessL] at h
  | a :: l, b :: m, c :: k, h1, h2 => by
    rw [lessL] at h1 h2 ⊢
    by_cases e1 : a = b
    · subst e1
      rw [if_pos rfl] at h1
      by_cases e2 : a = c
      · rw [if_pos e2] at h2 ⊢; exact less_trans h1 h2
      · rw [if_neg e2] at h2 ⊢; exact h2
    · rw [if_neg e1] at h1
      have h1 := of_decide_eq_true h1
      by_cases e2 : b = c
      · subst e2; rw [if_neg e1]; exact decide_eq_true h1
      · rw [if_neg e2] at h2
        have h2 := of_decide_eq_true h2
        rw [if_neg (by omega)]; exact decide_eq_true (by omega)
theorem less_tri : ∀ {l m : List Int}, lessL l m = false → lessL m l = false → l = m
  | [], [], _, _ => rfl
  | [], _ :: _, h, _ => by simp [lessL] at h
  | _ :: _, [], _, h => by simp [lessL] at h
  | a :: l, b :: m, h1, h2 => by
    rw [lessL] at h1 h2
    by_cases e : a = b
    · subst e
      rw [if_pos rfl] at h1 h2
      rw [less_tri h1 h2]
    · rw [if_neg e] at h1
      rw [if_neg (fun h => e h.symm)] at h2
      have := of_decide_eq_false h1
      have := of_decide_eq_false h2
      omega
theorem len_le_of_subset {α : Type} [DecidableEq α] : ∀ {A B : List α}, A.Nodup → (∀ x, x ∈ A → x ∈ B) → A.length ≤ B.length
  | [], _, _, _ => by simp
  | a :: A, B, hn, hs => by
    obtain ⟨h1, h2⟩ := List.nodup_cons.1 hn
    have ha : a ∈ B := hs a List.mem_cons_self
    have : A.length ≤ (B.erase a).length := len_le_of_subset h2 fun x hx => (List.mem_erase_of_ne (fun e : x = a => h1 (by rw [← e]; exact hx))).2 (hs x (List.mem_cons_of_mem _ hx))
    have hl := List.length_erase_of_mem ha
    have := List.length_pos_of_mem ha
    simp only [List.length_cons]; omega
theorem len_lt_of_subset {α : Type} [DecidableEq α] {A B : List α} (hn : A.Nodup) (hs : ∀ x, x ∈ A → x ∈ B) {b : α} (hb : b ∈ B) (hb' : b ∉ A) : A.length < B.length := by
  have := len_le_of_subset (A := b :: A) (B := B) (List.nodup_cons.2 ⟨hb', hn⟩) fun x hx => by
    rcases List.mem_cons.1 hx with rfl | h
    · exact hb
    · exact hs x h
  simp only [List.length_cons] at this; omega
theorem len_eq_of_same {α : Type} [DecidableEq α] {A B : List α} (ha : A.Nodup) (hb : B.Nodup) (h : ∀ x, x ∈ A ↔ x ∈ B) : A.length = B.length :=
  Nat.le_antisymm (len_le_of_subset ha fun x => (h x).1) (len_le_of_subset hb fun x => (h x).2)

/-- one more of those before d, if it is not yet there -/
def seeOne (d : List Int) (s : List (List Int)) (x : List Int) : List (List Int) := if lessL x d && s.all (fun y => !decide (y = x)) then s ++ [x] else s
/-- those before d, each once -/
def seenL (d : List Int) (L : List (List Int)) : List (List Int) := L.foldl (seeOne d) []
theorem seen_snoc (d : List Int) (L : List (List Int)) (x : List Int) : seenL d (L ++ [x]) = seeOne d (seenL d L) x := by simp [seenL]
theorem seen_fold {d : List Int} : ∀ (L s : List (List Int)), s.Nodup → (∀ x, x ∈ s → lessL x d = true) → (L.foldl (seeOne d) s).Nodup ∧ ∀ x, x ∈ L.foldl (seeOne d) s ↔ x ∈ s ∨ (x ∈ L ∧ lessL x d = true)
  | [], s, hn, _ => ⟨hn, fun x => by simp⟩
  | a :: L, s, hn, hs => by
    rw [List.foldl_cons]
    by_cases h : (lessL a d && s.all (fun y => !decide (y = a))) = true
    · have e : seeOne d s a = s ++ [a] := by rw [seeOne, if_pos h]
      rw [Bool.and_eq_true] at h
      have ha : a ∉ s := fun hm => by have := List.all_eq_true.1 h.2 a hm; simp at this
      rw [e]
      obtain ⟨h1, h2⟩ := seen_fold (d := d) L (s ++ [a]) (by rw [List.nodup_append]; refine ⟨hn, by simp, fun x hx y hy => ?_⟩; simp at hy; subst hy; exact fun e => ha (e ▸ hx)) (fun x hx => by
        rcases List.mem_append.1 hx with hx | hx
        · exact hs x hx
        · simp at hx; subst hx; exact h.1)
      refine ⟨h1, fun x => ?_⟩
      rw [h2]
      constructor
      · rintro (hx | hx)
        · rcases List.mem_append.1 hx with hx | hx
          · exact .inl hx
          · simp at hx; subst hx; exact .inr ⟨List.mem_cons_self, h.1⟩
        · exact .inr ⟨List.mem_cons_of_mem _ hx.1, hx.2⟩
      · rintro (hx | ⟨hx, hl⟩)
        · exact .inl (List.mem_append_left _ hx)
        · rcases List.mem_cons.1 hx with rfl | hx
          · exact .inl (List.mem_append_right _ (by simp))
          · exact .inr ⟨hx, hl⟩
    · have e : seeOne d s a = s := by rw [seeOne, if_neg h]
      rw [e]
      obtain ⟨h1, h2⟩ := seen_fold (d := d) L s hn hs
      refine ⟨h1, fun x => ?_⟩
      rw [h2]
      constructor
      · rintro (hx | hx)
        · exact .inl hx
        · exact .inr ⟨List.mem_cons_of_mem _ hx.1, hx.2⟩
      · rintro (hx | ⟨hx, hl⟩)
        · exact .inl hx
        · rcases List.mem_cons.1 hx with rfl | hx
          · left
            have hall : ¬ s.all (fun y => !decide (y = x)) = true := fun hh => h (by rw [Bool.and_eq_true]; exact ⟨hl, hh⟩)
            rw [List.all_eq_true] at hall
            simp only [Bool.not_eq_true', decide_eq_false_iff_not] at hall
            by_cases hm : x ∈ s
            · exact hm
            · exact absurd (fun y hy (e : y = x) => hm (by rw [← e]; exact hy)) hall
          · exact .inr ⟨hx, hl⟩
theorem seen_nodup (d : List Int) (L : List (List Int)) : (seenL d L).Nodup := (seen_fold L [] (by simp) (by simp)).1
theorem mem_seen {d : List Int} {L : List (List Int)} {x : List Int} : x ∈ seenL d L ↔ x ∈ L ∧ lessL x d = true := by
  have := (seen_fold (d := d) L [] (by simp) (by simp)).2 x
  simpa [seenL] using this
/-- the place of d among the different ones of L -/
def num (L : List (List Int)) (d : List Int) : Nat := (seenL d L).length
theorem num_congr {L M : List (List Int)} (h : ∀ x, x ∈ L ↔ x ∈ M) (d : List Int) : num L d = num M d :=
  len_eq_of_same (seen_nodup _ _) (seen_nodup _ _) fun x => by rw [mem_seen, mem_seen, h]
theorem num_lt {L : List (List Int)} {d e : List Int} (hd : d ∈ L) (h : lessL d e = true) : num L d < num L e :=
  len_lt_of_subset (seen_nodup _ _) (fun x hx => mem_seen.2 ⟨(mem_seen.1 hx).1, less_trans (mem_seen.1 hx).2 h⟩) (b := d) (mem_seen.2 ⟨hd, h⟩) fun hm => by have := (mem_seen.1 hm).2; rw [less_irr] at this; cases this
theorem num_lt_iff {L : List (List Int)} {d e : List Int} (hd : d ∈ L) (he : e ∈ L) : num L d < num L e ↔ lessL d e = true := by
  refine ⟨fun h => ?_, num_lt hd⟩
  cases hl : lessL d e with
  | true => rfl
  | false =>
    cases hr : lessL e d with
    | true => have := num_lt he hr; omega
    | false => rw [less_tri hl hr] at h; omega
theorem num_inj {L : List (List Int)} {d e : List Int} (hd : d ∈ L) (he : e ∈ L) (h : num L d = num L e) : d = e := by
  cases hl : lessL d e with
  | true => have := num_lt hd hl; omega
  | false =>
    cases hr : lessL e d with
    | true => have := num_lt he hr; omega
    | false => exact less_tri hl hr
theorem num_len {L : List (List Int)} {d : List Int} (hd : d ∈ L) : num L d < L.length :=
  len_lt_of_subset (seen_nodup _ _) (fun _ hx => (mem_seen.1 hx).1) hd fun hm => by have := (mem_seen.1 hm).2; rw [less_irr] at this; cases this
end Go.Proofs.YtpcnoiigbmiejaaGreatDoor.colp

/- Refinement of colours, in plain words. -/
namespace Go.Proofs.YtpcnoiigbmiejaaGreatDoor.col
set_option linter.unusedVariables false
set_option linter.unusedSimpArgs false
open Go.Proofs.YtpcnoiigbmiejaaGreatDoor.base Go.Proofs.YtpcnoiigbmiejaaGreatDoor.colp

/-- a structure -/
structure St : Type where
  n : Nat
  s : ByteArray
  r : ByteArray
def n01 (b : Bool) : Nat := if b then 1 else 0
/-- an element's first description -/
def d0 (a : St) (x : Nat) : List Int := [((2 * n01 (bitAt a.s x) + n01 (bitAt a.r (x * a.n + x)) : Nat) : Int)]
/-- how two elements are related -/
def kindOf (a : St) (x y : Nat) : Nat := 2 * n01 (bitAt a.r (x * a.n + y)) + n01 (bitAt a.r (y * a.n + x))
def way (a : St) (c : List Int) (x k m : Nat) : List Int := ((List.range m).filter fun y => y != x && kindOf a x y == k).map fun y => c.getD y 0
def sortI (l : List Int) : List Int := l.mergeSort fun x y => decide (x ≤ y)
def wayOut (l : List Int) : List Int := (l.length : Int) :: sortI l
/-- the description of an element by the colours of all -/
def descTo (a : St) (c : List Int) (x k : Nat) : List Int := c.getD x 0 :: (List.range k).flatMap fun j => wayOut (way a c x j a.n)
def desc (a : St) (c : List Int) (x : Nat) : List Int := descTo a c x 4
def firsts : List St → List (List Int)
  | [] => []
  | a :: As => (List.range a.n).map (d0 a) ++ firsts As
def nexts : List St → List Int → List (List Int)
  | [], _ => []
  | a :: As, c => (List.range a.n).map (desc a (c.take a.n)) ++ nexts As (c.drop a.n)
def nums (L : List (List Int)) : List Int := L.map fun d => ((num L d : Nat) : Int)
/-- the colours after some rounds -/
def cols (As : List St) : Nat → List Int
  | 0 => nums (firsts As)
  | k + 1 => nums (nexts As (cols As k))
def total : List St → Nat
  | [] => 0
  | a :: As => a.n + total As
theorem firsts_len : ∀ As, (firsts As).length = total As
  | [] => rfl
  | a :: As => by simp [firsts, total, firsts_len As]
theorem nexts_len : ∀ (As : List St) (c : List Int), (nexts As c).length = total As
  | [], _ => rfl
  | a :: As, c => by simp [nexts, total, nexts_len As]
theorem nums_len (L : List (List Int)) : (nums L).length = L.length := by simp [nums]
theorem cols_len (As : List St) : ∀ k, (cols As k).length = total As
  | 0 => by rw [cols, nums_len, firsts_len]
  | k + 1 => by rw [cols, nums_len, nexts_len]

/-! elements of lists of numbers -/
theorem nums_get {L : List (List Int)} {i : Nat} (h : i < L.length) : (nums L).getD i 0 = ((num L L[i] : Nat) : Int) := by
  rw [List.getD_eq_getElem?_getD, nums, List.getElem?_map, List.getElem?_eq_getElem h]; rfl
theorem nums_eq {L : List (List Int)} {i j : Nat} (hi : i < L.length) (hj : j < L.length) : (nums L).getD i 0 = (nums L).getD j 0 ↔ L[i] = L[j] := by
  rw [nums_get hi, nums_get hj]
  constructor
  · intro h; exact num_inj (List.getElem_mem _) (List.getElem_mem _) (by omega)
  · intro h; rw [h]
theorem nums_lt {L : List (List Int)} {i j : Nat} (hi : i < L.length) (hj : j < L.length) : (nums L).getD i 0 < (nums L).getD j 0 ↔ lessL L[i] L[j] = true := by
  rw [nums_get hi, nums_get hj, ← num_lt_iff (List.getElem_mem hi) (List.getElem_mem hj)]
  omega
/-- each smaller number is taken, too -/
theorem num_onto {L : List (List Int)} {d : List Int} (hd : d ∈ L) {m : Nat} (hm : m ≤ num L d) : ∃ e, e ∈ L ∧ num L e = m := by
  by_cases h : m = num L d
  · exact ⟨d, hd, h.symm⟩
  · have hlt : m < num L d := by omega
    by_cases hx : m ∈ (seenL d L).map (num L)
    · obtain ⟨e, he, h⟩ := List.mem_map.1 hx
      exact ⟨e, (mem_seen.1 he).1, h⟩
    · exfalso
      have hn : ((seenL d L).map (num L)).Nodup := by
        rw [List.Nodup, List.pairwise_map]
        refine List.Pairwise.imp_of_mem (fun {a b} ha hb hab => ?_) (seen_nodup d L)
        exact fun e => hab (num_inj (mem_seen.1 ha).1 (mem_seen.1 hb).1 e)
      have := len_lt_of_subset (B := List.range (num L d)) hn (fun x hx => by
        obtain ⟨e, he, rfl⟩ := List.mem_map.1 hx
        exact List.mem_range.2 (num_lt (mem_seen.1 he).1 (mem_seen.1 he).2)) (List.mem_range.2 hlt) hx
      rw [List.length_map, List.length_range] at this
      have : (seenL d L).length = num L d := rfl
      omega

/-- how many colours there are -/
def mostTo (c : List Int) (k : Nat) : Int := (c.take k).foldl (fun m x => max m (x + 1)) 0
def most (c : List Int) : Int := c.foldl (fun m x => max m (x + 1)) 0
theorem fold_max : ∀ (c : List Int) (m : Int), m ≤ c.foldl (fun m x => max m (x + 1)) m ∧ (∀ x, x ∈ c → x + 1 ≤ c.foldl (fun m x => max m (x + 1)) m) ∧ (c.foldl (fun m x => max m (x + 1)) m = m ∨ ∃ x, x ∈ c ∧ c.foldl (fun m x => max m (x + 1)) m = x + 1)
  | [], m => ⟨by simp, by simp, .inl rfl⟩
  | y :: c, m => by
    rw [List.foldl_cons]
    obtain ⟨h1, h2, h3⟩ := fold_max c (max m (y + 1))
    refine ⟨by omega, fun x hx => ?_, ?_⟩
    · rcases List.mem_cons.1 hx with rfl | hx
      · omega
      · exact h2 x hx
    · rcases h3 with h | ⟨x, hx, h⟩
      · by_cases hm : m ≤ y + 1
        · exact .inr ⟨y, List.mem_cons_self, by rw [h]; omega⟩
        · exact .inl (by rw [h]; omega)
      · exact .inr ⟨x, List.mem_cons_of_mem _ hx, h⟩
theorem most_ge {c : List Int} {x : Int} (h : x ∈ c) : x + 1 ≤ most c := (fold_max c 0).2.1 x h
theorem most_nonneg (c : List Int) : 0 ≤ most c := (fold_max c 0).1
theorem most_at {c : List Int} (h : c ≠ []) (h0 : ∀ x, x ∈ c → 0 ≤ x) : ∃ x, x ∈ c ∧ most c = x + 1 := by
  rcases (fold_max c 0).2.2 with e | h2
  · obtain ⟨y, hy⟩ := List.exists_mem_of_ne_nil c h
    have := most_ge hy
    have := h0 y hy
    have e2 : most c = 0 := e
    omega
  · exact h2
theorem mem_nums {L : List (List Int)} {x : Int} : x ∈ nums L ↔ ∃ d, d ∈ L ∧ ((num L d : Nat) : Int) = x := by simp [nums]
/-- the colours are the numbers from 0 to one less than most -/
theorem nums_all {L : List (List Int)} (hL : L ≠ []) {x : Int} : x ∈ nums L ↔ 0 ≤ x ∧ x < most (nums L) := by
  constructor
  · intro h
    have := most_ge h
    obtain ⟨d, _, e⟩ := mem_nums.1 h
    omega
  · rintro ⟨h0, h1⟩
    obtain ⟨y, hy, e⟩ := most_at (c := nums L) (by simpa [nums] using hL) (fun x hx => by obtain ⟨d, _, e⟩ := mem_nums.1 hx; omega)
    obtain ⟨d, hd, e2⟩ := mem_nums.1 hy
    obtain ⟨e', he', h⟩ := num_onto hd (m := x.toNat) (by omega)
    exact mem_nums.2 ⟨e', he', by omega⟩
theorem most_nums_le (L : List (List Int)) : most (nums L) ≤ L.length := by
  rcases (fold_max (nums L) 0).2.2 with e | ⟨x, hx, e⟩
  · have e2 : most (nums L) = 0 := e
    omega
  · obtain ⟨d, hd, h⟩ := mem_nums.1 hx
    have := num_len hd
    have e2 : most (nums L) = x + 1 := e
    omega

/-! a round more -/
theorem nexts_head : ∀ (As : List St) (c : List Int) {i : Nat}, c.length = total As → i < total As → ∃ t, (nexts As c)[i]? = some (c.getD i 0 :: t)
  | [], _, i, _, h => by simp [total] at h
  | a :: As, c, i, hc, hi => by
    rw [total] at hc hi
    rw [nexts]
    by_cases h : i < a.n
    · rw [List.getElem?_append_left (by simpa using h)]
      refine ⟨(List.range 4).flatMap fun j => wayOut (way a (c.take a.n) i j a.n), ?_⟩
      rw [List.getElem?_map, List.getElem?_range h]
      simp only [Option.map_some, desc, descTo]
      simp only [List.getD_eq_getElem?_getD, List.getElem?_take, if_pos h]
    · rw [List.getElem?_append_right (by simp; omega)]
      obtain ⟨t, ht⟩ := nexts_head As (c.drop a.n) (i := i - a.n) (by simp; omega) (by omega)
      refine ⟨t, ?_⟩
      simp only [List.length_map, List.length_range]
      rw [ht, List.getD_eq_getElem?_getD, List.getElem?_drop, ← List.getD_eq_getElem?_getD, show a.n + (i - a.n) = i by omega]
theorem cols_refine {As : List St} {k i j : Nat} (hi : i < total As) (hj : j < total As) (h : (cols As (k + 1)).getD i 0 = (cols As (k + 1)).getD j 0) : (cols As k).getD i 0 = (cols As k).getD j 0 := by
  have li : i < (nexts As (cols As k)).length := by rw [nexts_len]; exact hi
  have lj : j < (nexts As (cols As k)).length := by rw [nexts_len]; exact hj
  have h2 := (nums_eq li lj).1 h
  obtain ⟨t, ht⟩ := nexts_head As (cols As k) (cols_len As k) hi
  obtain ⟨u, hu⟩ := nexts_head As (cols As k) (cols_len As k) hj
  rw [List.getElem?_eq_getElem li] at ht
  rw [List.getElem?_eq_getElem lj] at hu
  rw [Option.some.inj ht, Option.some.inj hu] at h2
  exact (List.cons.inj h2).1
/-- the colours before are known by those after -/
theorem cols_map (As : List St) (k : Nat) : ∃ g : Int → Int, cols As k = (cols As (k + 1)).map g := by
  obtain ⟨C, hC⟩ : ∃ C, C = cols As (k + 1) := ⟨_, rfl⟩
  obtain ⟨c, hc⟩ : ∃ c, c = cols As k := ⟨_, rfl⟩
  have lC : C.length = total As := by rw [hC]; exact cols_len As _
  have lc : c.length = total As := by rw [hc]; exact cols_len As _
  have hr : ∀ {i j : Nat}, i < total As → j < total As → C.getD i 0 = C.getD j 0 → c.getD i 0 = c.getD j 0 := by rw [hC, hc]; exact cols_refine
  rw [← hC, ← hc]
  refine ⟨fun v => c.getD (C.idxOf v) 0, ?_⟩
  apply List.ext_getElem (by rw [List.length_map, lC, lc])
  intro i h1 h2
  rw [List.getElem_map]
  have hi : i < C.length := by omega
  have hm : C[i] ∈ C := List.getElem_mem hi
  have hlt := List.idxOf_lt_length_of_mem hm
  have e := hr (i := i) (j := C.idxOf C[i]) (by omega) (by omega) (by
    rw [List.getD_eq_getElem?_getD, List.getElem?_eq_getElem hi, List.getD_eq_getElem?_getD, List.getElem?_eq_getElem hlt, Option.getD_some, Option.getD_some, List.getElem_idxOf])
  rw [← e, List.getD_eq_getElem?_getD, List.getElem?_eq_getElem h1, Option.getD_some]
theorem firsts_ne {As : List St} (h : 0 < total As) : firsts As ≠ [] := fun e => by have := firsts_len As; rw [e] at this; simp at this; omega
theorem nexts_ne {As : List St} {c : List Int} (h : 0 < total As) : nexts As c ≠ [] := fun e => by have := nexts_len As c; rw [e] at this; simp at this; omega
theorem cols_all {As : List St} (h : 0 < total As) (k : Nat) {x : Int} : x ∈ cols As k ↔ 0 ≤ x ∧ x < most (cols As k) := by
  cases k with
  | zero => exact nums_all (firsts_ne h)
  | succ k => exact nums_all (nexts_ne h)
theorem cols_most_le (As : List St) (k : Nat) : most (cols As k) ≤ total As := by
  cases k with
  | zero => rw [← firsts_len As]; exact most_nums_le _
  | succ k => rw [← nexts_len As (cols As k)]; exact most_nums_le _
/-- there are no fewer colours after a round more -/
theorem most_mono {As : List St} (h : 0 < total As) (k : Nat) : most (cols As k) ≤ most (cols As (k + 1)) := by
  obtain ⟨g, hg⟩ := cols_map As k
  have hA := most_nonneg (cols As k)
  have hB := most_nonneg (cols As (k + 1))
  have hsub := len_le_of_subset (A := (List.range (most (cols As k)).toNat).map fun i : Nat => (i : Int)) (B := ((List.range (most (cols As (k + 1))).toNat).map fun i : Nat => g (i : Int)))
    (by rw [List.Nodup, List.pairwise_map]; exact (List.nodup_range).imp fun {a b} hab e => hab (by omega)) fun x hx => by
      obtain ⟨i, hi, rfl⟩ := List.mem_map.1 hx
      have hi := List.mem_range.1 hi
      have hm : (i : Int) ∈ cols As k := (cols_all h k).2 ⟨by omega, by omega⟩
      rw [hg] at hm
      obtain ⟨y, hy, e⟩ := List.mem_map.1 hm
      have := (cols_all h (k + 1)).1 hy
      exact List.mem_map.2 ⟨y.toNat, List.mem_range.2 (by omega), by rw [show ((y.toNat : Nat) : Int) = y by omega]; exact e⟩
  simp only [List.length_map, List.length_range] at hsub
  omega
/-- more and more colours cannot be for ever -/
theorem most_grow {As : List St} (h : 0 < total As) : ∀ k, (∀ j, j < k → most (cols As j) ≠ most (cols As (j + 1))) → (k : Int) + 1 ≤ most (cols As k)
  | 0, _ => by
    have hne : cols As 0 ≠ [] := fun e => by have := cols_len As 0; rw [e] at this; simp at this; omega
    obtain ⟨y, hy⟩ := List.exists_mem_of_ne_nil _ hne
    have := (cols_all h 0).1 hy
    omega
  | k + 1, hk => by
    have := most_grow h k fun j hj => hk j (by omega)
    have := most_mono h k
    have := hk k (by omega)
    omega
theorem sortI_perm (l : List Int) : (sortI l).Perm l := List.mergeSort_perm l _
theorem sortI_sorted (l : List Int) : (sortI l).Pairwise fun x y => x ≤ y := by
  have := List.pairwise_mergeSort (le := fun x y : Int => decide (x ≤ y)) (fun a b c h1 h2 => by simp at *; omega) (fun a b => by simp; omega) l
  exact this.imp fun {a b} h => by simpa using h
theorem sorted_eq {l m : List Int} (h : l.Pairwise fun x y => x ≤ y) (hp : l.Perm m) : l = sortI m :=
  List.Perm.eq_of_pairwise (le := fun x y => x ≤ y) (fun a b _ _ h1 h2 => by omega) h (sortI_sorted m) (hp.trans (sortI_perm m).symm)
theorem sortI_congr {l m : List Int} (h : l.Perm m) : sortI l = sortI m := sorted_eq (sortI_sorted l) ((sortI_perm l).trans h)
theorem sortI_eq_iff {l m : List Int} : sortI l = sortI m ↔ l.Perm m := ⟨fun h => (sortI_perm l).symm.trans (h ▸ sortI_perm m), sortI_congr⟩
theorem sortI_len (l : List Int) : (sortI l).length = l.length := (sortI_perm l).length_eq
/-- as many elements of each colour -/
def sameAt (a b : St) (k : Nat) : Bool := decide (((cols [a, b] k).take a.n).Perm ((cols [a, b] k).drop a.n))
theorem sameAt_pred {a b : St} {k : Nat} (h : sameAt a b (k + 1) = true) : sameAt a b k = true := by
  obtain ⟨g, hg⟩ := cols_map [a, b] k
  have h := of_decide_eq_true h
  refine decide_eq_true ?_
  rw [hg, ← List.map_take, ← List.map_drop]
  exact h.map g
theorem sameAt_down {a b : St} {j : Nat} : ∀ {k : Nat}, j ≤ k → sameAt a b k = true → sameAt a b j = true
  | 0, hj, h => by obtain rfl : j = 0 := by omega
                   exact h
  | k + 1, hj, h => by
    by_cases e : j = k + 1
    · subst e; exact h
    · exact sameAt_down (k := k) (by omega) (sameAt_pred h)
/-- the first round that tells apart, of the first k; -1 if there is none -/
def roundTo (a b : St) : Nat → Int
  | 0 => -1
  | k + 1 => if roundTo a b k = -1 ∧ sameAt a b k = false then (k : Int) else roundTo a b k
theorem roundTo_cases (a b : St) : ∀ k, (roundTo a b k = -1 ∧ ∀ j, j < k → sameAt a b j = true) ∨ ∃ j : Nat, j < k ∧ roundTo a b k = (j : Int) ∧ sameAt a b j = false ∧ ∀ i, i < j → sameAt a b i = true
  | 0 => .inl ⟨rfl, fun j hj => absurd hj (Nat.not_lt_zero _)⟩
  | k + 1 => by
    rw [roundTo]
    rcases roundTo_cases a b k with ⟨h1, h2⟩ | ⟨j, hj, h1, h2, h3⟩
    · cases hs : sameAt a b k with
      | true =>
        rw [if_neg (by simp)]
        refine .inl ⟨h1, fun j hj => ?_⟩
        by_cases e : j = k
        · subst e; exact hs
        · exact h2 j (by omega)
      | false =>
        rw [if_pos ⟨h1, rfl⟩]
        exact .inr ⟨k, by omega, rfl, hs, h2⟩
    · rw [if_neg (by omega)]
      exact .inr ⟨j, by omega, h1, h2, h3⟩
theorem roundTo_none {a b : St} {k : Nat} : roundTo a b (k + 1) = -1 ↔ sameAt a b k = true := by
  constructor
  · intro h
    rcases roundTo_cases a b (k + 1) with ⟨_, h2⟩ | ⟨j, _, h1, _⟩
    · exact h2 k (by omega)
    · omega
  · intro h
    rcases roundTo_cases a b (k + 1) with ⟨h1, _⟩ | ⟨j, hj, h1, h2, _⟩
    · exact h1
    · rw [sameAt_down (j := j) (by omega) h] at h2; cases h2
theorem roundTo_at {a b : St} {k m : Nat} (hk : sameAt a b k = false) (h : ∀ i, i < k → sameAt a b i = true) (hm : k < m) : roundTo a b m = (k : Int) := by
  rcases roundTo_cases a b m with ⟨_, h2⟩ | ⟨j, hj, h1, h2, h3⟩
  · rw [h2 k hm] at hk; cases hk
  · rw [h1]
    by_cases e : j = k
    · rw [e]
    · by_cases e2 : j < k
      · rw [h j e2] at h2; cases h2
      · rw [h3 k (by omega)] at hk; cases hk
/-- how often each number below m is there -/
def counts (c : List Int) (m : Nat) : List Int := (List.range m).map fun v : Nat => ((c.count (v : Int) : Nat) : Int)
theorem counts_perm {c d : List Int} {m : Nat} (hc : ∀ x, x ∈ c → 0 ≤ x ∧ x < m) (hd : ∀ x, x ∈ d → 0 ≤ x ∧ x < m) : counts c m = counts d m ↔ c.Perm d := by
  constructor
  · intro h
    refine List.perm_iff_count.2 fun x => ?_
    by_cases hx : 0 ≤ x ∧ x < m
    · have := congrArg (fun l => l.getD x.toNat 0) h
      simp only [counts, List.getD_eq_getElem?_getD, List.getElem?_map] at this
      rw [List.getElem?_range (by omega)] at this
      simp only [Option.map_some, Option.getD_some] at this
      rw [show ((x.toNat : Nat) : Int) = x by omega] at this
      omega
    · rw [List.count_eq_zero.2 fun h => hx (hc x h), List.count_eq_zero.2 fun h => hx (hd x h)]
  · intro h
    unfold counts
    exact List.map_congr_left fun v _ => by rw [h.count_eq]
/-- a number is put into a sorted list behind all that are not greater -/
theorem sort_put {l : List Int} {p : Nat} {n : Int} (hp : p ≤ l.length) (h1 : ∀ i, i < p → (sortI l).getD i 0 ≤ n) (h2 : ∀ i, p ≤ i → i < l.length → n < (sortI l).getD i 0) : (sortI l).take p ++ [n] ++ (sortI l).drop p = sortI (l ++ [n]) := by
  refine sorted_eq ?_ ?_
  · have hs := sortI_sorted l
    have hl := sortI_len l
    rw [List.append_assoc, List.pairwise_append]
    refine ⟨hs.sublist (List.take_sublist _ _), ?_, fun a ha b hb => ?_⟩
    · rw [List.singleton_append, List.pairwise_cons]
      refine ⟨fun a ha => ?_, hs.sublist (List.drop_sublist _ _)⟩
      obtain ⟨i, hi, rfl⟩ := List.getElem_of_mem ha
      rw [List.getElem_drop]
      rw [List.length_drop] at hi
      have := h2 (p + i) (by omega) (by omega)
      rw [List.getD_eq_getElem?_getD, List.getElem?_eq_getElem (by omega), Option.getD_some] at this
      omega
    · obtain ⟨i, hi, rfl⟩ := List.getElem_of_mem ha
      rw [List.length_take] at hi
      rw [List.getElem_take]
      have hin := h1 i (by omega)
      rw [List.getD_eq_getElem?_getD, List.getElem?_eq_getElem (by omega), Option.getD_some] at hin
      rw [List.singleton_append] at hb
      rcases List.mem_cons.1 hb with rfl | hb
      · exact hin
      · obtain ⟨j, hj, rfl⟩ := List.getElem_of_mem hb
        rw [List.getElem_drop]
        rw [List.length_drop] at hj
        have := h2 (p + j) (by omega) (by omega)
        rw [List.getD_eq_getElem?_getD, List.getElem?_eq_getElem (by omega), Option.getD_some] at this
        omega
  · refine List.Perm.trans ?_ ((sortI_perm l).append_right [n])
    refine (List.perm_append_comm.append_right _).trans ?_
    rw [List.append_assoc, List.take_append_drop]
    exact List.perm_append_comm
end Go.Proofs.YtpcnoiigbmiejaaGreatDoor.col

/- l2Int, l8Kind, l8First of the reference. -/
namespace Go.Proofs.YtpcnoiigbmiejaaGreatDoor.kind
set_option linter.unusedVariables false
set_option linter.unusedSimpArgs false
open Go.ChangeShapes Go.WideShapes Go.ChangeAt Go.RowKit
open Go.Proofs.YtpcnoiigbmiejaaGreatDoor.lib Go.Proofs.YtpcnoiigbmiejaaGreatDoor.st Go.Proofs.YtpcnoiigbmiejaaGreatDoor.base Go.Proofs.YtpcnoiigbmiejaaGreatDoor.flow Go.Proofs.YtpcnoiigbmiejaaGreatDoor.chain Go.Proofs.YtpcnoiigbmiejaaGreatDoor.col Go.Proofs.YtpcnoiigbmiejaaGreatDoor.sll

theorem l2Int_any (b : Bool) (w : World) : Calls Tryz.prog 43 #[.bool b] w fun e w' => e = .returned (.int .i64 (n01 b : Nat)) ∧ w = w' := by
  cases b
  · go_enter Tryz.func43, Tryz.ntmps43
    go_wp2
    go_ret
    exact ⟨rfl, rfl⟩
  · go_enter Tryz.func43, Tryz.ntmps43
    go_wp2
    go_ret
    exact ⟨rfl, rfl⟩
theorem l2Int_f (w : World) : Calls Tryz.prog 43 #[.bool false] w fun e w' => e = .returned (.int .i64 0) ∧ w = w' := l2Int_any false w
theorem l2Int_t (w : World) : Calls Tryz.prog 43 #[.bool true] w fun e w' => e = .returned (.int .i64 1) ∧ w = w' := l2Int_any true w
theorem ofDrew {w w' : World} (h : Below w.drew.heap.size w.drew w') : Below w.heap.size w w' := by
  cases h; constructor <;> assumption
theorem oneRow (T : TypeId) (w : World) (B H : Nat) (v : Int) (hH : w.heap.size = H) (hB : B ≤ H) : OwnI T (w.alloc (.cells #[.int .i64 v] T)) B (.slice (some ⟨H, 0, none⟩) 1 1) [v] := by
  subst hH
  refine ⟨by simp [ivs], .inr ⟨w.heap.size, 1, #[.int .i64 v], rfl, hB, heap_alloc_new w _, Nat.le_refl _, by unfold maxLen; decide, rfl, ?_⟩⟩
  simp [ivs]

set_option maxHeartbeats 1600000 in
theorem l8Kind_any (N : Nat) (s r : ByteArray) (x y : Nat) (w : World) (hx : x < N) (hy : y < N) (hn : N ≤ 8) (hr : r.size = N * N) :
    Calls Tryz.prog 168 #[.agg #[.int .i64 N, .string s, .string r], .int .i64 x, .int .i64 y] w fun e w' => e = .returned (.int .i64 (kindOf ⟨N, s, r⟩ x y : Nat)) ∧ Below w.heap.size w w' := by
  have BX : Box 24 (w.alloc (.cells #[.int .i64 N, .string s, .string r] 24)) w.heap.size N s r := Box.new _ w _ rfl _ _ _
  have AW : Hid (Below w.heap.size w (w.alloc (.cells #[.int .i64 N, .string s, .string r] 24))) := (Below.refl _ _).alloc (Nat.le_refl _) _
  obtain ⟨W1, hW1⟩ : ∃ W1, W1 = w.alloc (.cells #[.int .i64 N, .string s, .string r] 24) := ⟨_, rfl⟩
  rw [← hW1] at BX AW
  obtain ⟨p, hp⟩ : ∃ p, bitAt r (x * N + y) = p := ⟨_, rfl⟩
  obtain ⟨q, hq⟩ : ∃ q, bitAt r (y * N + x) = q := ⟨_, rfl⟩
  have HK : Hid (kindOf ⟨N, s, r⟩ x y = 2 * n01 p + n01 q) := by rw [Hid, kindOf, hp, hq]
  have C1 : Hid (∀ W, Calls Tryz.prog 87 #[.agg #[.int .i64 N, .string s, .string r], .int .i64 x, .int .i64 y] W fun e w' => e = .returned (.bool p) ∧ Below W.heap.size W w') := fun W => by rw [← hp]; exact l1Rel_any N s r x y W hx hy hn hr
  have C2 : Hid (∀ W, Calls Tryz.prog 87 #[.agg #[.int .i64 N, .string s, .string r], .int .i64 y, .int .i64 x] W fun e w' => e = .returned (.bool q) ∧ Below W.heap.size W w') := fun W => by rw [← hq]; exact l1Rel_any N s r y x W hy hx hn hr
  have CI0 : Hid (∀ W, Calls Tryz.prog 43 #[.bool false] W fun e w' => e = .returned (.int .i64 0) ∧ W = w') := fun W => l2Int_any false W
  have CI1 : Hid (∀ W, Calls Tryz.prog 43 #[.bool true] W fun e w' => e = .returned (.int .i64 1) ∧ W = w') := fun W => l2Int_any true W
  have HW1 := Lib.hid hW1
  have q0 : ∀ X : Wd (fun W => Hid (Below W1.heap.size W1 W)), X.w.cell? ⟨w.heap.size, 0, none⟩ = some (.int .i64 N) := fun X => (BX.below X.ok.out BX.lt).c.1
  have q1 : ∀ X : Wd (fun W => Hid (Below W1.heap.size W1 W)), X.w.cell? ⟨w.heap.size, 1, none⟩ = some (.string s) := fun X => (BX.below X.ok.out BX.lt).c.2.1
  have q2 : ∀ X : Wd (fun W => Hid (Below W1.heap.size W1 W)), X.w.cell? ⟨w.heap.size, 2, none⟩ = some (.string r) := fun X => (BX.below X.ok.out BX.lt).c.2.2
  have hne : Nonempty (Wd (fun W => Hid (Below W1.heap.size W1 W))) := ⟨⟨W1, Lib.hid (Below.refl _ _)⟩⟩
  clear hp hq hW1 BX
  cases p <;> cases q
  all_goals
    go_enter Tryz.func168, Tryz.ntmps168
    go_wp2_with fail
    rw [← HW1.out]
    refine flow_last (S := (fun W => Hid (Below W1.heap.size W1 W))) (by kernel_rfl) (by kernel_rfl) (by kernel_rfl) (by kernel_rfl) (by kernel_rfl) (Lib.hid (Below.refl _ _).drew) ?_
    simp only [List.dropLast_cons_cons, List.dropLast_singleton, List.getLast?_cons_cons, List.getLast?_singleton, Option.toList_some]
    repeat (go_big_quiet_step (first
      | ((with_reducible refine (C1.out _).mono ?_); rintro e W ⟨rfl, hb⟩; exact ⟨rfl, Wd.on (Wd.ok _) hb⟩)
      | ((with_reducible refine (C2.out _).mono ?_); rintro e W ⟨rfl, hb⟩; exact ⟨rfl, Wd.on (Wd.ok _) hb⟩)
      | ((with_reducible refine (CI0.out _).mono ?_); rintro e W ⟨rfl, rfl⟩; exact ⟨rfl, _, rfl⟩)
      | ((with_reducible refine (CI1.out _).mono ?_); rintro e W ⟨rfl, rfl⟩; exact ⟨rfl, _, rfl⟩)))
    refine wpQuiet_nil ?_
    rintro _ ⟨X, rfl⟩
    have R : Hid (Below w.heap.size w X.w) := AW.out.trans (X.ok.out.mono AW.out.size)
    clear q0 q1 q2 hne
    go_wp2
    go_ret
    exact ⟨by rw [HK.out]; rfl, R.out⟩

set_option maxHeartbeats 3200000 in
theorem l8First_any (N : Nat) (s r : ByteArray) (x : Nat) (w : World) (hx : x < N) (hn : N ≤ 8) (hs : s.size = N) (hr : r.size = N * N) :
    Calls Tryz.prog 137 #[.agg #[.int .i64 N, .string s, .string r], .int .i64 x] w fun e w' => ∃ v, e = .returned v ∧ OwnI 3 w' w.heap.size v (d0 ⟨N, s, r⟩ x) ∧ Below w.heap.size w w' := by
  have BX : Hid (Box 24 (w.alloc (.cells #[.int .i64 N, .string s, .string r] 24)) w.heap.size N s r) := Box.new _ w _ rfl _ _ _
  have AW : Hid (Below w.heap.size w (w.alloc (.cells #[.int .i64 N, .string s, .string r] 24))) := (Below.refl _ _).alloc (Nat.le_refl _) _
  obtain ⟨W1, hW1⟩ : ∃ W1, W1 = w.alloc (.cells #[.int .i64 N, .string s, .string r] 24) := ⟨_, rfl⟩
  rw [← hW1] at BX AW
  obtain ⟨p, hp⟩ : ∃ p, bitAt s x = p := ⟨_, rfl⟩
  obtain ⟨q, hq⟩ : ∃ q, bitAt r (x * N + x) = q := ⟨_, rfl⟩
  have HK : Hid (d0 ⟨N, s, r⟩ x = [((2 * n01 p + n01 q : Nat) : Int)]) := by rw [Hid, d0, hp, hq]
  have C1 : Hid (∀ W, Calls Tryz.prog 86 #[.agg #[.int .i64 N, .string s, .string r], .int .i64 x] W fun e w' => e = .returned (.bool p) ∧ Below W.heap.size W w') := fun W => by rw [← hp]; exact l1Set_any N s r x W (by omega) (by omega)
  have C2 : Hid (∀ W, Calls Tryz.prog 87 #[.agg #[.int .i64 N, .string s, .string r], .int .i64 x, .int .i64 x] W fun e w' => e = .returned (.bool q) ∧ Below W.heap.size W w') := fun W => by rw [← hq]; exact l1Rel_any N s r x x W hx hx hn hr
  have HW1 := Lib.hid hW1
  obtain ⟨a0, a1, a2⟩ := BX.out.c
  have q0 : ∀ QQ : Wd (fun Q => Q.cell? ⟨w.heap.size, 0, none⟩ = some (.int .i64 N) ∧ Q.cell? ⟨w.heap.size, 1, none⟩ = some (.string s) ∧ Q.cell? ⟨w.heap.size, 2, none⟩ = some (.string r)), QQ.w.cell? ⟨w.heap.size, 0, none⟩ = some (.int .i64 N) := fun QQ => QQ.ok.1
  have q1 : ∀ QQ : Wd (fun Q => Q.cell? ⟨w.heap.size, 0, none⟩ = some (.int .i64 N) ∧ Q.cell? ⟨w.heap.size, 1, none⟩ = some (.string s) ∧ Q.cell? ⟨w.heap.size, 2, none⟩ = some (.string r)), QQ.w.cell? ⟨w.heap.size, 1, none⟩ = some (.string s) := fun QQ => QQ.ok.2.1
  have q2 : ∀ QQ : Wd (fun Q => Q.cell? ⟨w.heap.size, 0, none⟩ = some (.int .i64 N) ∧ Q.cell? ⟨w.heap.size, 1, none⟩ = some (.string s) ∧ Q.cell? ⟨w.heap.size, 2, none⟩ = some (.string r)), QQ.w.cell? ⟨w.heap.size, 2, none⟩ = some (.string r) := fun QQ => QQ.ok.2.2
  have hne : Nonempty (Wd (fun Q => Q.cell? ⟨w.heap.size, 0, none⟩ = some (.int .i64 N) ∧ Q.cell? ⟨w.heap.size, 1, none⟩ = some (.string s) ∧ Q.cell? ⟨w.heap.size, 2, none⟩ = some (.string r))) := ⟨⟨W1, ⟨a0, a1, a2⟩⟩⟩
  clear hp hq hW1
  cases p <;> cases q
  · go_enter Tryz.func137, Tryz.ntmps137
    go_wp2_with fail
    rw [← HW1.out]
    refine chain (S := (fun Q => Q.cell? ⟨w.heap.size, 0, none⟩ = some (.int .i64 N) ∧ Q.cell? ⟨w.heap.size, 1, none⟩ = some (.string s) ∧ Q.cell? ⟨w.heap.size, 2, none⟩ = some (.string r))) [([true, true, false, false, false, true, true, true], 2), ([], 3), ([false, false, false, false, true], 8), ([], 9), ([false, false, false, false, false, false, false, false, false, false, true], 11)] [false, false, false, false, false, false, false, false, false, false, false, false, true] (by kernel_rfl) (by kernel_rfl) (by kernel_rfl) ⟨a0, a1, a2⟩ ?_
    simp only [wpSegs, pickB, List.dropLast_cons_cons, List.dropLast_singleton, List.getLast?_cons_cons, List.getLast?_singleton, List.toList_toArray, List.getElem?_toArray, List.getElem?_cons_succ, List.getElem?_cons_zero, Option.toList_some]
    repeat (go_big_quiet_step (fail))
    refine wpQuiet_nil ?_
    intro K hK
    go_wp2_with fail
    refine (C1.out _).mono ?_
    rintro e w2 ⟨rfl, hb⟩
    have HB2 := Lib.hid (ofDrew hb)
    have BX2 := Lib.hid (BX.out.below HB2.out BX.out.lt)
    clear hb
    go_wp2_with fail
    refine hK _ _ BX2.out.c ?_
    clear hK K
    repeat (go_big_quiet_step (fail))
    refine wpQuiet_nil ?_
    intro K hK
    go_wp2_with fail
    refine (l2Int_f _).mono ?_
    rintro e w3 ⟨rfl, rfl⟩
    go_wp2_with fail
    refine hK _ _ BX2.out.c ?_
    clear hK K
    repeat (go_big_quiet_step (fail))
    refine wpQuiet_nil ?_
    intro K hK
    go_wp2_with fail
    refine (C2.out _).mono ?_
    rintro e w4 ⟨rfl, hb⟩
    have HB4 := Lib.hid (HB2.out.trans (hb.mono HB2.out.size))
    have BX4 := Lib.hid (BX2.out.below hb BX2.out.lt)
    clear hb
    go_wp2_with fail
    refine hK _ _ BX4.out.c ?_
    clear hK K
    repeat (go_big_quiet_step (fail))
    refine wpQuiet_nil ?_
    intro K hK
    go_wp2_with fail
    refine (l2Int_f _).mono ?_
    rintro e w5 ⟨rfl, rfl⟩
    go_wp2_with fail
    refine hK _ _ BX4.out.c ?_
    clear hK K
    repeat (go_big_quiet_step (fail))
    refine wpQuiet_nil ?_
    intro K hK
    go_wp2_with fail
    have HB5 : Hid (Below w4.heap.size w4 (w4.alloc (.cells #[.int .i64 0] 3))) := (Below.refl _ _).alloc (Nat.le_refl _) _
    have O5 : Hid (OwnI 3 (w4.alloc (.cells #[.int .i64 0] 3)) w4.heap.size (.slice (some ⟨w4.heap.size, 0, none⟩) 1 1) [0]) := oneRow _ _ _ _ _ rfl (Nat.le_refl _)
    refine hK _ _ (BX4.out.below HB5.out BX4.out.lt).c ?_
    clear hK K
    repeat (go_big_quiet_step (fail))
    refine wpQuiet_nil ?_
    clear q0 q1 q2 hne
    have R := Lib.hid (show _ ∧ _ from ⟨O5.out.mono (show w.heap.size ≤ w4.heap.size from by have h1 := AW.out.size; have h2 := HB4.out.size; omega), AW.out.trans ((HB4.out.trans (HB5.out.mono HB4.out.size)).mono AW.out.size)⟩)
    go_wp2
    go_ret
    exact ⟨_, rfl, by rw [HK.out]; exact R.out.1, R.out.2⟩
  · go_enter Tryz.func137, Tryz.ntmps137
    go_wp2_with fail
    rw [← HW1.out]
    refine chain (S := (fun Q => Q.cell? ⟨w.heap.size, 0, none⟩ = some (.int .i64 N) ∧ Q.cell? ⟨w.heap.size, 1, none⟩ = some (.string s) ∧ Q.cell? ⟨w.heap.size, 2, none⟩ = some (.string r))) [([true, true, false, false, false, true, true, true], 2), ([], 3), ([false, false, false, false, true], 8), ([], 9), ([false, false, false, false, false, false, false, false, false, false, true], 11)] [false, false, false, false, false, false, false, false, false, false, false, false, true] (by kernel_rfl) (by kernel_rfl) (by kernel_rfl) ⟨a0, a1, a2⟩ ?_
    simp only [wpSegs, pickB, List.dropLast_cons_cons, List.dropLast_singleton, List.getLast?_cons_cons, List.getLast?_singleton, List.toList_toArray, List.getElem?_toArray, List.getElem?_cons_succ, List.getElem?_cons_zero, Option.toList_some]
    repeat (go_big_quiet_step (fail))
    refine wpQuiet_nil ?_
    intro K hK
    go_wp2_with fail
    refine (C1.out _).mono ?_
    rintro e w2 ⟨rfl, hb⟩
    have HB2 := Lib.hid (ofDrew hb)
    have BX2 := Lib.hid (BX.out.below HB2.out BX.out.lt)
    clear hb
    go_wp2_with fail
    refine hK _ _ BX2.out.c ?_
    clear hK K
    repeat (go_big_quiet_step (fail))
    refine wpQuiet_nil ?_
    intro K hK
    go_wp2_with fail
    refine (l2Int_f _).mono ?_
    rintro e w3 ⟨rfl, rfl⟩
    go_wp2_with fail
    refine hK _ _ BX2.out.c ?_
    clear hK K
    repeat (go_big_quiet_step (fail))
    refine wpQuiet_nil ?_
    intro K hK
    go_wp2_with fail
    refine (C2.out _).mono ?_
    rintro e w4 ⟨rfl, hb⟩
    have HB4 := Lib.hid (HB2.out.trans (hb.mono HB2.out.size))
    have BX4 := Lib.hid (BX2.out.below hb BX2.out.lt)
    clear hb
    go_wp2_with fail
    refine hK _ _ BX4.out.c ?_
    clear hK K
    repeat (go_big_quiet_step (fail))
    refine wpQuiet_nil ?_
    intro K hK
    go_wp2_with fail
    refine (l2Int_t _).mono ?_
    rintro e w5 ⟨rfl, rfl⟩
    go_wp2_with fail
    refine hK _ _ BX4.out.c ?_
    clear hK K
    repeat (go_big_quiet_step (fail))
    refine wpQuiet_nil ?_
    intro K hK
    go_wp2_with fail
    have HB5 : Hid (Below w4.heap.size w4 (w4.alloc (.cells #[.int .i64 1] 3))) := (Below.refl _ _).alloc (Nat.le_refl _) _
    have O5 : Hid (OwnI 3 (w4.alloc (.cells #[.int .i64 1] 3)) w4.heap.size (.slice (some ⟨w4.heap.size, 0, none⟩) 1 1) [1]) := oneRow _ _ _ _ _ rfl (Nat.le_refl _)
    refine hK _ _ (BX4.out.below HB5.out BX4.out.lt).c ?_
    clear hK K
    repeat (go_big_quiet_step (fail))
    refine wpQuiet_nil ?_
    clear q0 q1 q2 hne
    have R := Lib.hid (show _ ∧ _ from ⟨O5.out.mono (show w.heap.size ≤ w4.heap.size from by have h1 := AW.out.size; have h2 := HB4.out.size; omega), AW.out.trans ((HB4.out.trans (HB5.out.mono HB4.out.size)).mono AW.out.size)⟩)
    go_wp2
    go_ret
    exact ⟨_, rfl, by rw [HK.out]; exact R.out.1, R.out.2⟩
  · go_enter Tryz.func137, Tryz.ntmps137
    go_wp2_with fail
    rw [← HW1.out]
    refine chain (S := (fun Q => Q.cell? ⟨w.heap.size, 0, none⟩ = some (.int .i64 N) ∧ Q.cell? ⟨w.heap.size, 1, none⟩ = some (.string s) ∧ Q.cell? ⟨w.heap.size, 2, none⟩ = some (.string r))) [([true, true, false, false, false, true, true, true], 2), ([], 3), ([false, false, false, false, true], 8), ([], 9), ([false, false, false, false, false, false, false, false, false, false, true], 11)] [false, false, false, false, false, false, false, false, false, false, false, false, true] (by kernel_rfl) (by kernel_rfl) (by kernel_rfl) ⟨a0, a1, a2⟩ ?_
    simp only [wpSegs, pickB, List.dropLast_cons_cons, List.dropLast_singleton, List.getLast?_cons_cons, List.getLast?_singleton, List.toList_toArray, List.getElem?_toArray, List.getElem?_cons_succ, List.getElem?_cons_zero, Option.toList_some]
    repeat (go_big_quiet_step (fail))
    refine wpQuiet_nil ?_
    intro K hK
    go_wp2_with fail
    refine (C1.out _).mono ?_
    rintro e w2 ⟨rfl, hb⟩
    have HB2 := Lib.hid (ofDrew hb)
    have BX2 := Lib.hid (BX.out.below HB2.out BX.out.lt)
    clear hb
    go_wp2_with fail
    refine hK _ _ BX2.out.c ?_
    clear hK K
    repeat (go_big_quiet_step (fail))
    refine wpQuiet_nil ?_
    intro K hK
    go_wp2_with fail
    refine (l2Int_t _).mono ?_
    rintro e w3 ⟨rfl, rfl⟩
    go_wp2_with fail
    refine hK _ _ BX2.out.c ?_
    clear hK K
    repeat (go_big_quiet_step (fail))
    refine wpQuiet_nil ?_
    intro K hK
    go_wp2_with fail
    refine (C2.out _).mono ?_
    rintro e w4 ⟨rfl, hb⟩
    have HB4 := Lib.hid (HB2.out.trans (hb.mono HB2.out.size))
    have BX4 := Lib.hid (BX2.out.below hb BX2.out.lt)
    clear hb
    go_wp2_with fail
    refine hK _ _ BX4.out.c ?_
    clear hK K
    repeat (go_big_quiet_step (fail))
    refine wpQuiet_nil ?_
    intro K hK
    go_wp2_with fail
    refine (l2Int_f _).mono ?_
    rintro e w5 ⟨rfl, rfl⟩
    go_wp2_with fail
    refine hK _ _ BX4.out.c ?_
    clear hK K
    repeat (go_big_quiet_step (fail))
    refine wpQuiet_nil ?_
    intro K hK
    go_wp2_with fail
    have HB5 : Hid (Below w4.heap.size w4 (w4.alloc (.cells #[.int .i64 2] 3))) := (Below.refl _ _).alloc (Nat.le_refl _) _
    have O5 : Hid (OwnI 3 (w4.alloc (.cells #[.int .i64 2] 3)) w4.heap.size (.slice (some ⟨w4.heap.size, 0, none⟩) 1 1) [2]) := oneRow _ _ _ _ _ rfl (Nat.le_refl _)
    refine hK _ _ (BX4.out.below HB5.out BX4.out.lt).c ?_
    clear hK K
    repeat (go_big_quiet_step (fail))
    refine wpQuiet_nil ?_
    clear q0 q1 q2 hne
    have R := Lib.hid (show _ ∧ _ from ⟨O5.out.mono (show w.heap.size ≤ w4.heap.size from by have h1 := AW.out.size; have h2 := HB4.out.size; omega), AW.out.trans ((HB4.out.trans (HB5.out.mono HB4.out.size)).mono AW.out.size)⟩)
    go_wp2
    go_ret
    exact ⟨_, rfl, by rw [HK.out]; exact R.out.1, R.out.2⟩
  · go_enter Tryz.func137, Tryz.ntmps137
    go_wp2_with fail
    rw [← HW1.out]
    refine chain (S := (fun Q => Q.cell? ⟨w.heap.size, 0, none⟩ = some (.int .i64 N) ∧ Q.cell? ⟨w.heap.size, 1, none⟩ = some (.string s) ∧ Q.cell? ⟨w.heap.size, 2, none⟩ = some (.string r))) [([true, true, false, false, false, true, true, true], 2), ([], 3), ([false, false, false, false, true], 8), ([], 9), ([false, false, false, false, false, false, false, false, false, false, true], 11)] [false, false, false, false, false, false, false, false, false, false, false, false, true] (by kernel_rfl) (by kernel_rfl) (by kernel_rfl) ⟨a0, a1, a2⟩ ?_
    simp only [wpSegs, pickB, List.dropLast_cons_cons, List.dropLast_singleton, List.getLast?_cons_cons, List.getLast?_singleton, List.toList_toArray, List.getElem?_toArray, List.getElem?_cons_succ, List.getElem?_cons_zero, Option.toList_some]
    repeat (go_big_quiet_step (fail))
    refine wpQuiet_nil ?_
    intro K hK
    go_wp2_with fail
    refine (C1.out _).mono ?_
    rintro e w2 ⟨rfl, hb⟩
    have HB2 := Lib.hid (ofDrew hb)
    have BX2 := Lib.hid (BX.out.below HB2.out BX.out.lt)
    clear hb
    go_wp2_with fail
    refine hK _ _ BX2.out.c ?_
    clear hK K
    repeat (go_big_quiet_step (fail))
    refine wpQuiet_nil ?_
    intro K hK
    go_wp2_with fail
    refine (l2Int_t _).mono ?_
    rintro e w3 ⟨rfl, rfl⟩
    go_wp2_with fail
    refine hK _ _ BX2.out.c ?_
    clear hK K
    repeat (go_big_quiet_step (fail))
    refine wpQuiet_nil ?_
    intro K hK
    go_wp2_with fail
    refine (C2.out _).mono ?_
    rintro e w4 ⟨rfl, hb⟩
    have HB4 := Lib.hid (HB2.out.trans (hb.mono HB2.out.size))
    have BX4 := Lib.hid (BX2.out.below hb BX2.out.lt)
    clear hb
    go_wp2_with fail
    refine hK _ _ BX4.out.c ?_
    clear hK K
    repeat (go_big_quiet_step (fail))
    refine wpQuiet_nil ?_
    intro K hK
    go_wp2_with fail
    refine (l2Int_t _).mono ?_
    rintro e w5 ⟨rfl, rfl⟩
    go_wp2_with fail
    refine hK _ _ BX4.out.c ?_
    clear hK K
    repeat (go_big_quiet_step (fail))
    refine wpQuiet_nil ?_
    intro K hK
    go_wp2_with fail
    have HB5 : Hid (Below w4.heap.size w4 (w4.alloc (.cells #[.int .i64 3] 3))) := (Below.refl _ _).alloc (Nat.le_refl _) _
    have O5 : Hid (OwnI 3 (w4.alloc (.cells #[.int .i64 3] 3)) w4.heap.size (.slice (some ⟨w4.heap.size, 0, none⟩) 1 1) [3]) := oneRow _ _ _ _ _ rfl (Nat.le_refl _)
    refine hK _ _ (BX4.out.below HB5.out BX4.out.lt).c ?_
    clear hK K
    repeat (go_big_quiet_step (fail))
    refine wpQuiet_nil ?_
    clear q0 q1 q2 hne
    have R := Lib.hid (show _ ∧ _ from ⟨O5.out.mono (show w.heap.size ≤ w4.heap.size from by have h1 := AW.out.size; have h2 := HB4.out.size; omega), AW.out.trans ((HB4.out.trans (HB5.out.mono HB4.out.size)).mono AW.out.size)⟩)
    go_wp2
    go_ret
    exact ⟨_, rfl, by rw [HK.out]; exact R.out.1, R.out.2⟩
end Go.Proofs.YtpcnoiigbmiejaaGreatDoor.kind

/- l8Sort: the reference puts a number into a sorted list. -/
namespace Go.Proofs.YtpcnoiigbmiejaaGreatDoor.srt
set_option linter.unusedVariables false
set_option linter.unusedSimpArgs false
open Go.ChangeShapes Go.WideShapes Go.ChangeAt Go.RowKit
open Go.Proofs.YtpcnoiigbmiejaaGreatDoor.lib Go.Proofs.YtpcnoiigbmiejaaGreatDoor.flow Go.Proofs.YtpcnoiigbmiejaaGreatDoor.chain Go.Proofs.YtpcnoiigbmiejaaGreatDoor.sll Go.Proofs.YtpcnoiigbmiejaaGreatDoor.col

theorem emptyRow (T : TypeId) (w : World) (B H : Nat) (hH : w.heap.size = H) (hB : B ≤ H) : OwnI T (w.alloc (.cells #[] T)) B (.slice (some ⟨H, 0, none⟩) 0 0) [] := by
  subst hH; exact World.ownsRow_made w #[] 0 hB (Nat.zero_le _) rfl
theorem sorted_le {l : List Int} {i j : Nat} (hij : i ≤ j) (hj : j < l.length) : (sortI l).getD i 0 ≤ (sortI l).getD j 0 := by
  have hl := sortI_len l
  by_cases e : i = j
  · subst e; exact Int.le_refl _
  · have := List.pairwise_iff_getElem.1 (sortI_sorted l) i j (by omega) (by omega) (by omega)
    rw [List.getD_eq_getElem?_getD, List.getD_eq_getElem?_getD, List.getElem?_eq_getElem (by omega), List.getElem?_eq_getElem (by omega)]
    exact this
/-- an append of what lies at a place -/
theorem wpList_appL {P : Program} (w : World) {ops : Array Oper} {rest : List Oper} {o : Oper} {a : Act} {Q : Exit → Act → World → Prop} (hgd : o.guard = none)
    (s x : Operand) (t : TypeId) (hop : o.op = Op.call { callee := Callee.builtin Builtin.append, args := #[s, x], argTypes := #[t, t] })
    (base : Nat) (e : TypeId) (h1 : P.underlying t = some (.slice e)) (hinfo : (P.info? e).map (fun i => (i.zero, i.size, i.bytes)) = some (some (.int .i64 0), 1, 8))
    (v : Value) (l : List Int) (hs : a.eval s = v) (hown : OwnI e w base v l) (H : Nat) (u : Int) (hx : a.eval x = .slice (some ⟨H, 0, none⟩) 1 1) (hc : w.cell? ⟨H, 0, none⟩ = some (.int .i64 u))
    (b1 : l.length + 1 ≤ 4398046511104) (b4 : base ≤ w.heap.size)
    (h : ∀ g cap w', OwnI e w' base (.slice (some ⟨g, 0, none⟩) (l.length + 1) cap) (l ++ [u]) → Grew w w' v (.slice (some ⟨g, 0, none⟩) (l.length + 1) cap) → wpList P ops Q rest (a.put o.dst (.slice (some ⟨g, 0, none⟩) (l.length + 1) cap)) w') :
    wpList P ops Q (o :: rest) a w := by
  refine wpList_plain hgd fun K hK => ?_
  refine wp_appL w s x t hop base e (.int .i64 0) 8 h1 hinfo rfl (by decide) v l.length (ivs l) hs hown ⟨H, 0, none⟩ 1 1 [.int .i64 u] hx rfl ?_ ?_ (by decide) b1 b4 (fun g cap w' ho hg => hK _ _ (h g cap w' ?_ hg))
  · intro j y hj
    match j, hj with
    | 0, hj => simp at hj; subst hj; simpa [Addr.add] using hc
  · intro y hy; simp at hy; subst hy; rfl
  · unfold OwnI; rw [List.length_append, ivs_append]; exact ho

/-- what a world keeps of an older one -/
theorem keepCell {W W' : World} {B : Nat} (hb : Below B W W') {a : Addr} {v : Value} (h : W.cell? a = some v) (hB : W.heap.size ≤ B := by exact Nat.le_refl _) : W'.cell? a = some v := by
  rw [hb.cell (Nat.lt_of_lt_of_le (World.block_lt_of_cell? W a h) hB)]; exact h

set_option maxHeartbeats 3200000 in
theorem l8Sort_any (B g cap : Nat) (l0 : List Int) (n : Int) (w : World) (hown : OwnI 3 w B (.slice (some ⟨g, 0, none⟩) l0.length cap) (sortI l0)) (hB : B ≤ w.heap.size) (hl : l0.length ≤ 1000) :
    Calls Tryz.prog 169 #[.slice (some ⟨g, 0, none⟩) l0.length cap, .int .i64 n] w fun e w' => ∃ g' cap', e = .returned (.slice (some ⟨g', 0, none⟩) (l0.length + 1) cap') ∧ OwnI 3 w' w.heap.size (.slice (some ⟨g', 0, none⟩) (l0.length + 1) cap') (sortI (l0 ++ [n])) ∧ Below w.heap.size w w' := by
  have hcap : l0.length ≤ cap ∧ cap ≤ 9223372036854775807 := by
    rcases hown.2 with ⟨h', _⟩ | ⟨g', cap', cur, h', hb, hh, hnc, hcm, _⟩
    · simp at h'
    · simp only [Value.slice.injEq] at h'
      obtain ⟨_, hx, rfl⟩ := h'
      exact ⟨by omega, hcm⟩
  obtain ⟨m, hm⟩ : ∃ m, m = l0.length := ⟨_, rfl⟩
  obtain ⟨l, hll⟩ : ∃ l, l = sortI l0 := ⟨_, rfl⟩
  obtain ⟨R, hR⟩ : ∃ R, R = sortI (l0 ++ [n]) := ⟨_, rfl⟩
  rw [← hll] at hown
  have HO := Lib.hid hown
  rw [← hm] at hl hcap HO ⊢
  rw [← hR]
  have HM : Hid (m = l.length) := by rw [Hid, hm, hll, sortI_len]
  have HL := Lib.hid (show _ ∧ _ ∧ _ from ⟨hm, hll, hR⟩)
  clear hown hm hll hR
  go_enter Tryz.func169, Tryz.ntmps169
  go_wp2
  go_loop [5] (fun i => ∃ k : Nat, k ≤ m ∧ i = .int .i64 k ∧ Hid (∀ j, k ≤ j → j < m → n < l.getD j 0)) (fun i => (intOf i).toNat)
  case atStart => exact ⟨m, Nat.le_refl _, rfl, fun j h1 h2 => (by omega)⟩
  case round =>
    obtain ⟨k, hk, rfl, hlo⟩ := hrel
    have fin : (k = 0 ∨ l.getD (k - 1) 0 ≤ n) → R = l.take k ++ [n] ++ l.drop k := fun h => by
      have h3 := HL.out
      rw [h3.2.2, h3.2.1]
      refine (sort_put (by omega) (fun i hi => ?_) (fun i h1 h2 => ?_)).symm
      · rcases h with h | h
        · omega
        · have := sorted_le (l := l0) (i := i) (j := k - 1) (by omega) (by omega)
          rw [← h3.2.1] at this ⊢
          omega
      · have := hlo.out i h1 (by omega)
        rw [h3.2.1] at this; exact this
    have FIN := Lib.hid fin
    clear fin
    have hstop : (k = 0 ∨ l.getD (k - 1) 0 ≤ n) ∨ (0 < k ∧ n < l.getD (k - 1) 0) := by omega
    rcases hstop with hst | ⟨hk0, hgt⟩
    · have HE : Hid (R = l.take k ++ [n] ++ l.drop k) := FIN.out hst
      have RT : Hid (Reads w (.slice (some ⟨g, 0, none⟩) k cap) (l.take k) ∧ Reads w (.slice (some ⟨g, k, none⟩) (m - k) (cap - k)) (l.drop k)) := by
        have hlk : (l.take k).length = k := by simp; have := HM.out; omega
        have hld : (l.drop k).length = m - k := by simp; have := HM.out; omega
        have hml := HM.out
        refine ⟨⟨some ⟨g, 0, none⟩, cap, by rw [hlk], .inr ⟨g, 0, rfl, fun i hi => ?_⟩, fun h => by cases h⟩, ⟨some ⟨g, k, none⟩, cap - k, by rw [hld], .inr ⟨g, k, rfl, fun i hi => ?_⟩, fun h => by cases h⟩⟩
        · have := HO.out.cell i (by omega)
          rw [Nat.zero_add, this]
          simp [List.getD_eq_getElem?_getD, List.getElem?_take, show i < k by omega]
        · have := HO.out.cell (k + i) (by omega)
          rw [this]
          simp [List.getD_eq_getElem?_getD, List.getElem?_drop]
      obtain ⟨tk, htk⟩ : ∃ q, q = l.take k := ⟨_, rfl⟩
      obtain ⟨dk, hdk⟩ : ∃ q, q = l.drop k := ⟨_, rfl⟩
      rw [← htk, ← hdk] at HE RT
      have htl : tk.length = k := by rw [htk]; simp; have := HM.out; omega
      have hdl : dk.length = m - k := by rw [hdk]; simp; have := HM.out; omega
      have HRL : Hid (R.length = m + 1) := by rw [Hid, HE.out, List.length_append, List.length_append, htl, hdl]; simp; omega
      have HTD := Lib.hid (show _ ∧ _ from ⟨htl, hdl⟩)
      have hgl := HO.out.ge.2
      have HHO := Lib.hid HO.out
      clear htk hdk htl hdl HO FIN hlo
      have hkm : k ≤ cap := by omega
      have hk0 : k = 0 ∨ (0 < k ∧ l.getD (k - 1) 0 ≤ n) := by
        rcases hst with h | h
        · exact .inl h
        · by_cases e : k = 0
          · exact .inl e
          · exact .inr ⟨by omega, h⟩
      clear hst
      rcases hk0 with rfl | ⟨hk0, hle⟩
      · by_cases hkc : 0 < cap
        · go_wp2_with fail
          go_cut [4] from 21 to 32 (fun q wx => ∃ g' cap', q = .slice (some ⟨g', 0, none⟩) (m + 1) cap' ∧ OwnI 3 wx w.heap.size q R ∧ Below w.heap.size w wx)
          case first =>
            go_wp2_with fail
            refine tree (S := fun _ => True) (Tr.two [false, true, true, true, false, true, false, false, true, true, true] 0 (Tr.two [] 4 (Tr.one [] 6 (Tr.one [] 7 (Tr.one [] 11 (Tr.leaf [false, false, false, false, false, false, false, false, false, false, false, false, true])))) 6 (Tr.one [] 4 (Tr.one [] 7 (Tr.one [] 11 (Tr.leaf [false, false, false, false, false, false, false, false, false, false, false, false, true]))))) 6 (Tr.one [] 0 (Tr.one [] 4 (Tr.one [] 7 (Tr.one [] 11 (Tr.leaf [false, false, false, false, false, false, false, false, false, false, false, false, true])))))) (by kernel_rfl) (by kernel_rfl) (by kernel_rfl) trivial ?_
            simp only [wpTr, pickB, List.toList_toArray, List.getElem?_toArray, List.getElem?_cons_succ, List.getElem?_cons_zero, Option.toList_some]
            have hne : Nonempty (Wd (fun _ : World => True)) := ⟨⟨w, trivial⟩⟩
            repeat (go_big_quiet_step (fail))
            refine wpQuiet_nil ?_
            constructor
            · intro K hK
              have BB0 : Hid (Below w.heap.size w w.drew) := (Below.refl _ _).drew
              have RD0 := Lib.hid (show _ ∧ _ from ⟨Reads.below RT.out.1 BB0.out (Nat.le_refl _), Reads.below RT.out.2 BB0.out (Nat.le_refl _)⟩)
              go_wp2_with fail
              obtain ⟨v1, hv1⟩ : ∃ q, q = (w.alloc (.cells #[] 3)).drew := ⟨_, rfl⟩
              have hba : Below w.heap.size w.drew v1 := by rw [hv1]; exact Below.trans (b := w) ⟨rfl, rfl, rfl, Nat.le_refl _, fun _ _ => rfl⟩ ((Below.refl w.heap.size w).alloc (Nat.le_refl _) _).drew
              have EE1 : Hid (OwnI 3 v1 w.heap.size (.slice (some ⟨w.heap.size, 0, none⟩) 0 0) []) := by rw [hv1]; exact emptyRow _ _ _ _ rfl BB0.out.size
              have BB1 : Hid (Below w.heap.size w v1) := BB0.out.trans (hba.mono BB0.out.size)
              rw [← hv1]
              refine hK _ _ trivial ?_
              clear hK K hv1 hba
              have RD1 := Lib.hid (show _ ∧ _ from ⟨Reads.below RT.out.1 BB1.out (Nat.le_refl _), Reads.below RT.out.2 BB1.out (Nat.le_refl _)⟩)
              repeat (go_big_quiet_step (fail))
              refine wpQuiet_nil ?_
              constructor
              · intro K hK
                go_wp2_with (at_builtin; refine wpList_appAll v1 rfl (.tmp 21) (.tmp 24) 29 rfl w.heap.size 3 Tryz.underlying29 infoInt _ [] tk rfl EE1.out _ rfl RD1.out.1 (by have := HTD.out; simp; omega) BB1.out.size ?_)
                intro vv v2 ho hg hge
                try rw [List.nil_append] at ho
                have hba : Below w.heap.size v1 v2 := below_of_grown hg BB1.out.size (fun q hq => (World.ownsRow.lt EE1.out q hq).1)
                have BB2 : Hid (Below w.heap.size w v2) := BB1.out.trans hba
                have VV2 := Lib.hid ho
                clear ho hg hba hge
                refine hK _ _ trivial ?_
                clear hK K
                have RD2 := Lib.hid (show _ ∧ _ from ⟨Reads.below RT.out.1 BB2.out (Nat.le_refl _), Reads.below RT.out.2 BB2.out (Nat.le_refl _)⟩)
                repeat (go_big_quiet_step (fail))
                refine wpQuiet_nil ?_
                intro K hK
                go_wp2_with fail
                obtain ⟨v3, hv3⟩ : ∃ q, q = v2.alloc (.cells #[.int .i64 n] 3) := ⟨_, rfl⟩
                have hba : Below v2.heap.size v2 v3 := by rw [hv3]; exact (Below.refl _ _).alloc (Nat.le_refl _) _
                have VV3 := Lib.hid (VV2.out.below hba (Nat.le_refl _))
                have CC3 : Hid (v3.cell? ⟨v2.heap.size, 0, none⟩ = some (.int .i64 n)) := by rw [hv3]; simp [Hid]
                have BB3 : Hid (Below w.heap.size w v3) := BB2.out.trans (hba.mono BB2.out.size)
                rw [← hv3]
                refine hK _ _ trivial ?_
                clear hK K hv3 hba
                have RD3 := Lib.hid (show _ ∧ _ from ⟨Reads.below RT.out.1 BB3.out (Nat.le_refl _), Reads.below RT.out.2 BB3.out (Nat.le_refl _)⟩)
                repeat (go_big_quiet_step (fail))
                refine wpQuiet_nil ?_
                intro K hK
                go_wp2_with (at_builtin; refine wpList_appL v3 rfl (.tmp 25) (.tmp 27) 29 rfl w.heap.size 3 Tryz.underlying29 infoInt _ tk rfl VV3.out (v2.heap.size) n rfl CC3.out (by have := HTD.out; simp; omega) BB3.out.size ?_)
                intro gq cq v4 ho hgr
                have hg := hgr.grown
                have hba : Below w.heap.size v3 v4 := below_of_grown hg BB3.out.size (fun q hq => (World.ownsRow.lt VV3.out q hq).1)
                have BB4 : Hid (Below w.heap.size w v4) := BB3.out.trans hba
                have VV4 := Lib.hid ho
                clear ho hg hba hgr
                refine hK _ _ trivial ?_
                clear hK K
                have RD4 := Lib.hid (show _ ∧ _ from ⟨Reads.below RT.out.1 BB4.out (Nat.le_refl _), Reads.below RT.out.2 BB4.out (Nat.le_refl _)⟩)
                repeat (go_big_quiet_step (fail))
                refine wpQuiet_nil ?_
                intro K hK
                go_wp2_with (at_builtin; refine wpList_appAll v4 rfl (.tmp 28) (.tmp 31) 29 rfl w.heap.size 3 Tryz.underlying29 infoInt _ (tk ++ [n]) dk rfl VV4.out _ rfl RD4.out.2 (by have := HTD.out; simp; omega) BB4.out.size ?_)
                intro vv v5 ho hg hge
                have hba : Below w.heap.size v4 v5 := below_of_grown hg BB4.out.size (fun q hq => (World.ownsRow.lt VV4.out q hq).1)
                have BB5 : Hid (Below w.heap.size w v5) := BB4.out.trans hba
                have VV5 := Lib.hid ho
                clear ho hg hba hge
                refine hK _ _ trivial ?_
                clear hK K
                have RD5 := Lib.hid (show _ ∧ _ from ⟨Reads.below RT.out.1 BB5.out (Nat.le_refl _), Reads.below RT.out.2 BB5.out (Nat.le_refl _)⟩)
                repeat (go_big_quiet_step (fail))
                refine wpQuiet_nil ?_
                rcases VV5.out.shape with ⟨_, h0⟩ | ⟨gz, cz, rfl⟩
                · simp at h0
                have e : Hid (R = tk ++ n :: dk) := by rw [Hid, HE.out]; simp
                go_wp2_with fail
                go_meet
                have eL : (tk ++ n :: dk).length = m + 1 := by rw [← e.out]; exact HRL.out
                have hv := VV5.out
                refine ⟨gz, cz, ?_, by rw [e.out]; simpa using hv, BB5.out⟩
                simp only [List.length_append, List.length_cons, List.length_nil] at eL ⊢
                first | rfl | (congr 1; done) | (congr 1; omega)
              · intro K hK
                go_wp2_with fail
                obtain ⟨v2, hv2⟩ : ∃ q, q = v1.alloc (.cells #[.int .i64 n] 3) := ⟨_, rfl⟩
                have hba : Below v1.heap.size v1 v2 := by rw [hv2]; exact (Below.refl _ _).alloc (Nat.le_refl _) _
                have EE2 := Lib.hid (EE1.out.below hba (Nat.le_refl _))
                have CC2 : Hid (v2.cell? ⟨v1.heap.size, 0, none⟩ = some (.int .i64 n)) := by rw [hv2]; simp [Hid]
                have HNE : Hid (v1.heap.size ≠ w.heap.size) := Nat.ne_of_gt (EE1.out.ge.2)
                have BB2 : Hid (Below w.heap.size w v2) := BB1.out.trans (hba.mono BB1.out.size)
                rw [← hv2]
                refine hK _ _ trivial ?_
                clear hK K hv2 hba
                have RD2 := Lib.hid (show _ ∧ _ from ⟨Reads.below RT.out.1 BB2.out (Nat.le_refl _), Reads.below RT.out.2 BB2.out (Nat.le_refl _)⟩)
                repeat (go_big_quiet_step (fail))
                refine wpQuiet_nil ?_
                intro K hK
                go_wp2_with (at_builtin; refine wpList_appAll v2 rfl (.tmp 21) (.tmp 24) 29 rfl w.heap.size 3 Tryz.underlying29 infoInt _ [] tk rfl EE2.out _ rfl RD2.out.1 (by have := HTD.out; simp; omega) BB2.out.size ?_)
                intro vv v3 ho hg hge
                try rw [List.nil_append] at ho
                have hba : Below w.heap.size v2 v3 := below_of_grown hg BB2.out.size (fun q hq => (World.ownsRow.lt EE2.out q hq).1)
                have BB3 : Hid (Below w.heap.size w v3) := BB2.out.trans hba
                have CC3 : Hid (v3.cell? ⟨v1.heap.size, 0, none⟩ = some (.int .i64 n)) := hg.cell CC2.out (by have := HNE.out; simpa [Value.ownBlock] using this)
                have VV3 := Lib.hid ho
                clear ho hg hba hge
                refine hK _ _ trivial ?_
                clear hK K
                have RD3 := Lib.hid (show _ ∧ _ from ⟨Reads.below RT.out.1 BB3.out (Nat.le_refl _), Reads.below RT.out.2 BB3.out (Nat.le_refl _)⟩)
                repeat (go_big_quiet_step (fail))
                refine wpQuiet_nil ?_
                intro K hK
                go_wp2_with (at_builtin; refine wpList_appL v3 rfl (.tmp 25) (.tmp 27) 29 rfl w.heap.size 3 Tryz.underlying29 infoInt _ tk rfl VV3.out (v1.heap.size) n rfl CC3.out (by have := HTD.out; simp; omega) BB3.out.size ?_)
                intro gq cq v4 ho hgr
                have hg := hgr.grown
                have hba : Below w.heap.size v3 v4 := below_of_grown hg BB3.out.size (fun q hq => (World.ownsRow.lt VV3.out q hq).1)
                have BB4 : Hid (Below w.heap.size w v4) := BB3.out.trans hba
                have VV4 := Lib.hid ho
                clear ho hg hba hgr
                refine hK _ _ trivial ?_
                clear hK K
                have RD4 := Lib.hid (show _ ∧ _ from ⟨Reads.below RT.out.1 BB4.out (Nat.le_refl _), Reads.below RT.out.2 BB4.out (Nat.le_refl _)⟩)
                repeat (go_big_quiet_step (fail))
                refine wpQuiet_nil ?_
                intro K hK
                go_wp2_with (at_builtin; refine wpList_appAll v4 rfl (.tmp 28) (.tmp 31) 29 rfl w.heap.size 3 Tryz.underlying29 infoInt _ (tk ++ [n]) dk rfl VV4.out _ rfl RD4.out.2 (by have := HTD.out; simp; omega) BB4.out.size ?_)
                intro vv v5 ho hg hge
                have hba : Below w.heap.size v4 v5 := below_of_grown hg BB4.out.size (fun q hq => (World.ownsRow.lt VV4.out q hq).1)
                have BB5 : Hid (Below w.heap.size w v5) := BB4.out.trans hba
                have VV5 := Lib.hid ho
                clear ho hg hba hge
                refine hK _ _ trivial ?_
                clear hK K
                have RD5 := Lib.hid (show _ ∧ _ from ⟨Reads.below RT.out.1 BB5.out (Nat.le_refl _), Reads.below RT.out.2 BB5.out (Nat.le_refl _)⟩)
                repeat (go_big_quiet_step (fail))
                refine wpQuiet_nil ?_
                rcases VV5.out.shape with ⟨_, h0⟩ | ⟨gz, cz, rfl⟩
                · simp at h0
                have e : Hid (R = tk ++ n :: dk) := by rw [Hid, HE.out]; simp
                go_wp2_with fail
                go_meet
                have eL : (tk ++ n :: dk).length = m + 1 := by rw [← e.out]; exact HRL.out
                have hv := VV5.out
                refine ⟨gz, cz, ?_, by rw [e.out]; simpa using hv, BB5.out⟩
                simp only [List.length_append, List.length_cons, List.length_nil] at eL ⊢
                first | rfl | (congr 1; done) | (congr 1; omega)
            · intro K hK
              have BB0 : Hid (Below w.heap.size w w.drew) := (Below.refl _ _).drew
              have RD0 := Lib.hid (show _ ∧ _ from ⟨Reads.below RT.out.1 BB0.out (Nat.le_refl _), Reads.below RT.out.2 BB0.out (Nat.le_refl _)⟩)
              go_wp2_with fail
              obtain ⟨v1, hv1⟩ : ∃ q, q = (w.alloc (.cells #[.int .i64 n] 3)).drew := ⟨_, rfl⟩
              have hba : Below w.heap.size w.drew v1 := by rw [hv1]; exact Below.trans (b := w) ⟨rfl, rfl, rfl, Nat.le_refl _, fun _ _ => rfl⟩ ((Below.refl w.heap.size w).alloc (Nat.le_refl _) _).drew
              have CC1 : Hid (v1.cell? ⟨w.heap.size, 0, none⟩ = some (.int .i64 n)) := by rw [hv1]; simp [Hid]
              have BB1 : Hid (Below w.heap.size w v1) := BB0.out.trans (hba.mono BB0.out.size)
              rw [← hv1]
              refine hK _ _ trivial ?_
              clear hK K hv1 hba
              have RD1 := Lib.hid (show _ ∧ _ from ⟨Reads.below RT.out.1 BB1.out (Nat.le_refl _), Reads.below RT.out.2 BB1.out (Nat.le_refl _)⟩)
              repeat (go_big_quiet_step (fail))
              refine wpQuiet_nil ?_
              intro K hK
              go_wp2_with fail
              obtain ⟨v2, hv2⟩ : ∃ q, q = v1.alloc (.cells #[] 3) := ⟨_, rfl⟩
              have hba : Below v1.heap.size v1 v2 := by rw [hv2]; exact (Below.refl _ _).alloc (Nat.le_refl _) _
              have CC2 : Hid (v2.cell? ⟨w.heap.size, 0, none⟩ = some (.int .i64 n)) := keepCell hba CC1.out
              have EE2 : Hid (OwnI 3 v2 w.heap.size (.slice (some ⟨v1.heap.size, 0, none⟩) 0 0) []) := by rw [hv2]; exact emptyRow _ _ _ _ rfl BB1.out.size
              have HNE : Hid (w.heap.size ≠ v1.heap.size) := Nat.ne_of_lt (World.block_lt_of_cell? _ _ CC1.out)
              have BB2 : Hid (Below w.heap.size w v2) := BB1.out.trans (hba.mono BB1.out.size)
              rw [← hv2]
              refine hK _ _ trivial ?_
              clear hK K hv2 hba
              have RD2 := Lib.hid (show _ ∧ _ from ⟨Reads.below RT.out.1 BB2.out (Nat.le_refl _), Reads.below RT.out.2 BB2.out (Nat.le_refl _)⟩)
              repeat (go_big_quiet_step (fail))
              refine wpQuiet_nil ?_
              intro K hK
              go_wp2_with (at_builtin; refine wpList_appAll v2 rfl (.tmp 21) (.tmp 24) 29 rfl w.heap.size 3 Tryz.underlying29 infoInt _ [] tk rfl EE2.out _ rfl RD2.out.1 (by have := HTD.out; simp; omega) BB2.out.size ?_)
              intro vv v3 ho hg hge
              try rw [List.nil_append] at ho
              have hba : Below w.heap.size v2 v3 := below_of_grown hg BB2.out.size (fun q hq => (World.ownsRow.lt EE2.out q hq).1)
              have BB3 : Hid (Below w.heap.size w v3) := BB2.out.trans hba
              have CC3 : Hid (v3.cell? ⟨w.heap.size, 0, none⟩ = some (.int .i64 n)) := hg.cell CC2.out (by have := HNE.out; simpa [Value.ownBlock] using this)
              have VV3 := Lib.hid ho
              clear ho hg hba hge
              refine hK _ _ trivial ?_
              clear hK K
              have RD3 := Lib.hid (show _ ∧ _ from ⟨Reads.below RT.out.1 BB3.out (Nat.le_refl _), Reads.below RT.out.2 BB3.out (Nat.le_refl _)⟩)
              repeat (go_big_quiet_step (fail))
              refine wpQuiet_nil ?_
              intro K hK
              go_wp2_with (at_builtin; refine wpList_appL v3 rfl (.tmp 25) (.tmp 27) 29 rfl w.heap.size 3 Tryz.underlying29 infoInt _ tk rfl VV3.out (w.heap.size) n rfl CC3.out (by have := HTD.out; simp; omega) BB3.out.size ?_)
              intro gq cq v4 ho hgr
              have hg := hgr.grown
              have hba : Below w.heap.size v3 v4 := below_of_grown hg BB3.out.size (fun q hq => (World.ownsRow.lt VV3.out q hq).1)
              have BB4 : Hid (Below w.heap.size w v4) := BB3.out.trans hba
              have VV4 := Lib.hid ho
              clear ho hg hba hgr
              refine hK _ _ trivial ?_
              clear hK K
              have RD4 := Lib.hid (show _ ∧ _ from ⟨Reads.below RT.out.1 BB4.out (Nat.le_refl _), Reads.below RT.out.2 BB4.out (Nat.le_refl _)⟩)
              repeat (go_big_quiet_step (fail))
              refine wpQuiet_nil ?_
              intro K hK
              go_wp2_with (at_builtin; refine wpList_appAll v4 rfl (.tmp 28) (.tmp 31) 29 rfl w.heap.size 3 Tryz.underlying29 infoInt _ (tk ++ [n]) dk rfl VV4.out _ rfl RD4.out.2 (by have := HTD.out; simp; omega) BB4.out.size ?_)
              intro vv v5 ho hg hge
              have hba : Below w.heap.size v4 v5 := below_of_grown hg BB4.out.size (fun q hq => (World.ownsRow.lt VV4.out q hq).1)
              have BB5 : Hid (Below w.heap.size w v5) := BB4.out.trans hba
              have VV5 := Lib.hid ho
              clear ho hg hba hge
              refine hK _ _ trivial ?_
              clear hK K
              have RD5 := Lib.hid (show _ ∧ _ from ⟨Reads.below RT.out.1 BB5.out (Nat.le_refl _), Reads.below RT.out.2 BB5.out (Nat.le_refl _)⟩)
              repeat (go_big_quiet_step (fail))
              refine wpQuiet_nil ?_
              rcases VV5.out.shape with ⟨_, h0⟩ | ⟨gz, cz, rfl⟩
              · simp at h0
              have e : Hid (R = tk ++ n :: dk) := by rw [Hid, HE.out]; simp
              go_wp2_with fail
              go_meet
              have eL : (tk ++ n :: dk).length = m + 1 := by rw [← e.out]; exact HRL.out
              have hv := VV5.out
              refine ⟨gz, cz, ?_, by rw [e.out]; simpa using hv, BB5.out⟩
              simp only [List.length_append, List.length_cons, List.length_nil] at eL ⊢
              first | rfl | (congr 1; done) | (congr 1; omega)
          case rest =>
            obtain ⟨g', cap', rfl, ho', hb'⟩ := hcut
            have RR := Lib.hid (show _ ∧ _ from ⟨ho', hb'⟩)
            clear ho' hb'
            go_wp2
            go_ret
            exact ⟨g', cap', rfl, RR.out.1, RR.out.2⟩
        · have hkc2 : cap = 0 := by omega
          have hkm2 : m = 0 := by omega
          subst hkc2
          subst hkm2
          have hdk0 : dk = [] := List.length_eq_zero_iff.1 (by have := HTD.out.2; omega)
          have RT2 : Hid (Reads w (.slice (some ⟨g, 0, none⟩) (0) (0)) tk ∧ Reads w (.slice (some ⟨g, 0, none⟩) 0 0) dk) := ⟨by have h := RT.out.1; exact h, by rw [hdk0]; exact ⟨some ⟨g, 0, none⟩, 0, rfl, .inl rfl, fun h => by cases h⟩⟩
          clear RT hdk0
          have RT := RT2
          clear RT2
          go_wp2_with fail
          go_cut [4] from 21 to 32 (fun q wx => ∃ g' cap', q = .slice (some ⟨g', 0, none⟩) (0 + 1) cap' ∧ OwnI 3 wx w.heap.size q R ∧ Below w.heap.size w wx)
          case first =>
            go_wp2_with fail
            refine tree (S := fun _ => True) (Tr.two [false, true, true, true, false, true, false, false, true, true, true] 0 (Tr.two [] 4 (Tr.one [] 6 (Tr.one [] 7 (Tr.one [] 11 (Tr.leaf [false, false, false, false, false, false, false, false, false, false, false, false, true])))) 6 (Tr.one [] 4 (Tr.one [] 7 (Tr.one [] 11 (Tr.leaf [false, false, false, false, false, false, false, false, false, false, false, false, true]))))) 6 (Tr.one [] 0 (Tr.one [] 4 (Tr.one [] 7 (Tr.one [] 11 (Tr.leaf [false, false, false, false, false, false, false, false, false, false, false, false, true])))))) (by kernel_rfl) (by kernel_rfl) (by kernel_rfl) trivial ?_
            simp only [wpTr, pickB, List.toList_toArray, List.getElem?_toArray, List.getElem?_cons_succ, List.getElem?_cons_zero, Option.toList_some]
            have hne : Nonempty (Wd (fun _ : World => True)) := ⟨⟨w, trivial⟩⟩
            repeat (go_big_quiet_step (fail))
            refine wpQuiet_nil ?_
            constructor
            · intro K hK
              have BB0 : Hid (Below w.heap.size w w.drew) := (Below.refl _ _).drew
              have RD0 := Lib.hid (show _ ∧ _ from ⟨Reads.below RT.out.1 BB0.out (Nat.le_refl _), Reads.below RT.out.2 BB0.out (Nat.le_refl _)⟩)
              go_wp2_with fail
              obtain ⟨v1, hv1⟩ : ∃ q, q = (w.alloc (.cells #[] 3)).drew := ⟨_, rfl⟩
              have hba : Below w.heap.size w.drew v1 := by rw [hv1]; exact Below.trans (b := w) ⟨rfl, rfl, rfl, Nat.le_refl _, fun _ _ => rfl⟩ ((Below.refl w.heap.size w).alloc (Nat.le_refl _) _).drew
              have EE1 : Hid (OwnI 3 v1 w.heap.size (.slice (some ⟨w.heap.size, 0, none⟩) 0 0) []) := by rw [hv1]; exact emptyRow _ _ _ _ rfl BB0.out.size
              have BB1 : Hid (Below w.heap.size w v1) := BB0.out.trans (hba.mono BB0.out.size)
              rw [← hv1]
              refine hK _ _ trivial ?_
              clear hK K hv1 hba
              have RD1 := Lib.hid (show _ ∧ _ from ⟨Reads.below RT.out.1 BB1.out (Nat.le_refl _), Reads.below RT.out.2 BB1.out (Nat.le_refl _)⟩)
              repeat (go_big_quiet_step (fail))
              refine wpQuiet_nil ?_
              constructor
              · intro K hK
                go_wp2_with (at_builtin; refine wpList_appAll v1 rfl (.tmp 21) (.tmp 24) 29 rfl w.heap.size 3 Tryz.underlying29 infoInt _ [] tk rfl EE1.out _ rfl RD1.out.1 (by have := HTD.out; simp; omega) BB1.out.size ?_)
                intro vv v2 ho hg hge
                try rw [List.nil_append] at ho
                have hba : Below w.heap.size v1 v2 := below_of_grown hg BB1.out.size (fun q hq => (World.ownsRow.lt EE1.out q hq).1)
                have BB2 : Hid (Below w.heap.size w v2) := BB1.out.trans hba
                have VV2 := Lib.hid ho
                clear ho hg hba hge
                refine hK _ _ trivial ?_
                clear hK K
                have RD2 := Lib.hid (show _ ∧ _ from ⟨Reads.below RT.out.1 BB2.out (Nat.le_refl _), Reads.below RT.out.2 BB2.out (Nat.le_refl _)⟩)
                repeat (go_big_quiet_step (fail))
                refine wpQuiet_nil ?_
                intro K hK
                go_wp2_with fail
                obtain ⟨v3, hv3⟩ : ∃ q, q = v2.alloc (.cells #[.int .i64 n] 3) := ⟨_, rfl⟩
                have hba : Below v2.heap.size v2 v3 := by rw [hv3]; exact (Below.refl _ _).alloc (Nat.le_refl _) _
                have VV3 := Lib.hid (VV2.out.below hba (Nat.le_refl _))
                have CC3 : Hid (v3.cell? ⟨v2.heap.size, 0, none⟩ = some (.int .i64 n)) := by rw [hv3]; simp [Hid]
                have BB3 : Hid (Below w.heap.size w v3) := BB2.out.trans (hba.mono BB2.out.size)
                rw [← hv3]
                refine hK _ _ trivial ?_
                clear hK K hv3 hba
                have RD3 := Lib.hid (show _ ∧ _ from ⟨Reads.below RT.out.1 BB3.out (Nat.le_refl _), Reads.below RT.out.2 BB3.out (Nat.le_refl _)⟩)
                repeat (go_big_quiet_step (fail))
                refine wpQuiet_nil ?_
                intro K hK
                go_wp2_with (at_builtin; refine wpList_appL v3 rfl (.tmp 25) (.tmp 27) 29 rfl w.heap.size 3 Tryz.underlying29 infoInt _ tk rfl VV3.out (v2.heap.size) n rfl CC3.out (by have := HTD.out; simp; omega) BB3.out.size ?_)
                intro gq cq v4 ho hgr
                have hg := hgr.grown
                have hba : Below w.heap.size v3 v4 := below_of_grown hg BB3.out.size (fun q hq => (World.ownsRow.lt VV3.out q hq).1)
                have BB4 : Hid (Below w.heap.size w v4) := BB3.out.trans hba
                have VV4 := Lib.hid ho
                clear ho hg hba hgr
                refine hK _ _ trivial ?_
                clear hK K
                have RD4 := Lib.hid (show _ ∧ _ from ⟨Reads.below RT.out.1 BB4.out (Nat.le_refl _), Reads.below RT.out.2 BB4.out (Nat.le_refl _)⟩)
                repeat (go_big_quiet_step (fail))
                refine wpQuiet_nil ?_
                intro K hK
                go_wp2_with (at_builtin; refine wpList_appAll v4 rfl (.tmp 28) (.tmp 31) 29 rfl w.heap.size 3 Tryz.underlying29 infoInt _ (tk ++ [n]) dk rfl VV4.out _ rfl RD4.out.2 (by have := HTD.out; simp; omega) BB4.out.size ?_)
                intro vv v5 ho hg hge
                have hba : Below w.heap.size v4 v5 := below_of_grown hg BB4.out.size (fun q hq => (World.ownsRow.lt VV4.out q hq).1)
                have BB5 : Hid (Below w.heap.size w v5) := BB4.out.trans hba
                have VV5 := Lib.hid ho
                clear ho hg hba hge
                refine hK _ _ trivial ?_
                clear hK K
                have RD5 := Lib.hid (show _ ∧ _ from ⟨Reads.below RT.out.1 BB5.out (Nat.le_refl _), Reads.below RT.out.2 BB5.out (Nat.le_refl _)⟩)
                repeat (go_big_quiet_step (fail))
                refine wpQuiet_nil ?_
                rcases VV5.out.shape with ⟨_, h0⟩ | ⟨gz, cz, rfl⟩
                · simp at h0
                have e : Hid (R = tk ++ n :: dk) := by rw [Hid, HE.out]; simp
                go_wp2_with fail
                go_meet
                have eL : (tk ++ n :: dk).length = 0 + 1 := by rw [← e.out]; exact HRL.out
                have hv := VV5.out
                refine ⟨gz, cz, ?_, by rw [e.out]; simpa using hv, BB5.out⟩
                simp only [List.length_append, List.length_cons, List.length_nil] at eL ⊢
                first | rfl | (congr 1; done) | (congr 1; omega)
              · intro K hK
                go_wp2_with fail
                obtain ⟨v2, hv2⟩ : ∃ q, q = v1.alloc (.cells #[.int .i64 n] 3) := ⟨_, rfl⟩
                have hba : Below v1.heap.size v1 v2 := by rw [hv2]; exact (Below.refl _ _).alloc (Nat.le_refl _) _
                have EE2 := Lib.hid (EE1.out.below hba (Nat.le_refl _))
                have CC2 : Hid (v2.cell? ⟨v1.heap.size, 0, none⟩ = some (.int .i64 n)) := by rw [hv2]; simp [Hid]
                have HNE : Hid (v1.heap.size ≠ w.heap.size) := Nat.ne_of_gt (EE1.out.ge.2)
                have BB2 : Hid (Below w.heap.size w v2) := BB1.out.trans (hba.mono BB1.out.size)
                rw [← hv2]
                refine hK _ _ trivial ?_
                clear hK K hv2 hba
                have RD2 := Lib.hid (show _ ∧ _ from ⟨Reads.below RT.out.1 BB2.out (Nat.le_refl _), Reads.below RT.out.2 BB2.out (Nat.le_refl _)⟩)
                repeat (go_big_quiet_step (fail))
                refine wpQuiet_nil ?_
                intro K hK
                go_wp2_with (at_builtin; refine wpList_appAll v2 rfl (.tmp 21) (.tmp 24) 29 rfl w.heap.size 3 Tryz.underlying29 infoInt _ [] tk rfl EE2.out _ rfl RD2.out.1 (by have := HTD.out; simp; omega) BB2.out.size ?_)
                intro vv v3 ho hg hge
                try rw [List.nil_append] at ho
                have hba : Below w.heap.size v2 v3 := below_of_grown hg BB2.out.size (fun q hq => (World.ownsRow.lt EE2.out q hq).1)
                have BB3 : Hid (Below w.heap.size w v3) := BB2.out.trans hba
                have CC3 : Hid (v3.cell? ⟨v1.heap.size, 0, none⟩ = some (.int .i64 n)) := hg.cell CC2.out (by have := HNE.out; simpa [Value.ownBlock] using this)
                have VV3 := Lib.hid ho
                clear ho hg hba hge
                refine hK _ _ trivial ?_
                clear hK K
                have RD3 := Lib.hid (show _ ∧ _ from ⟨Reads.below RT.out.1 BB3.out (Nat.le_refl _), Reads.below RT.out.2 BB3.out (Nat.le_refl _)⟩)
                repeat (go_big_quiet_step (fail))
                refine wpQuiet_nil ?_
                intro K hK
                go_wp2_with (at_builtin; refine wpList_appL v3 rfl (.tmp 25) (.tmp 27) 29 rfl w.heap.size 3 Tryz.underlying29 infoInt _ tk rfl VV3.out (v1.heap.size) n rfl CC3.out (by have := HTD.out; simp; omega) BB3.out.size ?_)
                intro gq cq v4 ho hgr
                have hg := hgr.grown
                have hba : Below w.heap.size v3 v4 := below_of_grown hg BB3.out.size (fun q hq => (World.ownsRow.lt VV3.out q hq).1)
                have BB4 : Hid (Below w.heap.size w v4) := BB3.out.trans hba
                have VV4 := Lib.hid ho
                clear ho hg hba hgr
                refine hK _ _ trivial ?_
                clear hK K
                have RD4 := Lib.hid (show _ ∧ _ from ⟨Reads.below RT.out.1 BB4.out (Nat.le_refl _), Reads.below RT.out.2 BB4.out (Nat.le_refl _)⟩)
                repeat (go_big_quiet_step (fail))
                refine wpQuiet_nil ?_
                intro K hK
                go_wp2_with (at_builtin; refine wpList_appAll v4 rfl (.tmp 28) (.tmp 31) 29 rfl w.heap.size 3 Tryz.underlying29 infoInt _ (tk ++ [n]) dk rfl VV4.out _ rfl RD4.out.2 (by have := HTD.out; simp; omega) BB4.out.size ?_)
                intro vv v5 ho hg hge
                have hba : Below w.heap.size v4 v5 := below_of_grown hg BB4.out.size (fun q hq => (World.ownsRow.lt VV4.out q hq).1)
                have BB5 : Hid (Below w.heap.size w v5) := BB4.out.trans hba
                have VV5 := Lib.hid ho
                clear ho hg hba hge
                refine hK _ _ trivial ?_
                clear hK K
                have RD5 := Lib.hid (show _ ∧ _ from ⟨Reads.below RT.out.1 BB5.out (Nat.le_refl _), Reads.below RT.out.2 BB5.out (Nat.le_refl _)⟩)
                repeat (go_big_quiet_step (fail))
                refine wpQuiet_nil ?_
                rcases VV5.out.shape with ⟨_, h0⟩ | ⟨gz, cz, rfl⟩
                · simp at h0
                have e : Hid (R = tk ++ n :: dk) := by rw [Hid, HE.out]; simp
                go_wp2_with fail
                go_meet
                have eL : (tk ++ n :: dk).length = 0 + 1 := by rw [← e.out]; exact HRL.out
                have hv := VV5.out
                refine ⟨gz, cz, ?_, by rw [e.out]; simpa using hv, BB5.out⟩
                simp only [List.length_append, List.length_cons, List.length_nil] at eL ⊢
                first | rfl | (congr 1; done) | (congr 1; omega)
            · intro K hK
              have BB0 : Hid (Below w.heap.size w w.drew) := (Below.refl _ _).drew
              have RD0 := Lib.hid (show _ ∧ _ from ⟨Reads.below RT.out.1 BB0.out (Nat.le_refl _), Reads.below RT.out.2 BB0.out (Nat.le_refl _)⟩)
              go_wp2_with fail
              obtain ⟨v1, hv1⟩ : ∃ q, q = (w.alloc (.cells #[.int .i64 n] 3)).drew := ⟨_, rfl⟩
              have hba : Below w.heap.size w.drew v1 := by rw [hv1]; exact Below.trans (b := w) ⟨rfl, rfl, rfl, Nat.le_refl _, fun _ _ => rfl⟩ ((Below.refl w.heap.size w).alloc (Nat.le_refl _) _).drew
              have CC1 : Hid (v1.cell? ⟨w.heap.size, 0, none⟩ = some (.int .i64 n)) := by rw [hv1]; simp [Hid]
              have BB1 : Hid (Below w.heap.size w v1) := BB0.out.trans (hba.mono BB0.out.size)
              rw [← hv1]
              refine hK _ _ trivial ?_
              clear hK K hv1 hba
              have RD1 := Lib.hid (show _ ∧ _ from ⟨Reads.below RT.out.1 BB1.out (Nat.le_refl _), Reads.below RT.out.2 BB1.out (Nat.le_refl _)⟩)
              repeat (go_big_quiet_step (fail))
              refine wpQuiet_nil ?_
              intro K hK
              go_wp2_with fail
              obtain ⟨v2, hv2⟩ : ∃ q, q = v1.alloc (.cells #[] 3) := ⟨_, rfl⟩
              have hba : Below v1.heap.size v1 v2 := by rw [hv2]; exact (Below.refl _ _).alloc (Nat.le_refl _) _
              have CC2 : Hid (v2.cell? ⟨w.heap.size, 0, none⟩ = some (.int .i64 n)) := keepCell hba CC1.out
              have EE2 : Hid (OwnI 3 v2 w.heap.size (.slice (some ⟨v1.heap.size, 0, none⟩) 0 0) []) := by rw [hv2]; exact emptyRow _ _ _ _ rfl BB1.out.size
              have HNE : Hid (w.heap.size ≠ v1.heap.size) := Nat.ne_of_lt (World.block_lt_of_cell? _ _ CC1.out)
              have BB2 : Hid (Below w.heap.size w v2) := BB1.out.trans (hba.mono BB1.out.size)
              rw [← hv2]
              refine hK _ _ trivial ?_
              clear hK K hv2 hba
              have RD2 := Lib.hid (show _ ∧ _ from ⟨Reads.below RT.out.1 BB2.out (Nat.le_refl _), Reads.below RT.out.2 BB2.out (Nat.le_refl _)⟩)
              repeat (go_big_quiet_step (fail))
              refine wpQuiet_nil ?_
              intro K hK
              go_wp2_with (at_builtin; refine wpList_appAll v2 rfl (.tmp 21) (.tmp 24) 29 rfl w.heap.size 3 Tryz.underlying29 infoInt _ [] tk rfl EE2.out _ rfl RD2.out.1 (by have := HTD.out; simp; omega) BB2.out.size ?_)
              intro vv v3 ho hg hge
              try rw [List.nil_append] at ho
              have hba : Below w.heap.size v2 v3 := below_of_grown hg BB2.out.size (fun q hq => (World.ownsRow.lt EE2.out q hq).1)
              have BB3 : Hid (Below w.heap.size w v3) := BB2.out.trans hba
              have CC3 : Hid (v3.cell? ⟨w.heap.size, 0, none⟩ = some (.int .i64 n)) := hg.cell CC2.out (by have := HNE.out; simpa [Value.ownBlock] using this)
              have VV3 := Lib.hid ho
              clear ho hg hba hge
              refine hK _ _ trivial ?_
              clear hK K
              have RD3 := Lib.hid (show _ ∧ _ from ⟨Reads.below RT.out.1 BB3.out (Nat.le_refl _), Reads.below RT.out.2 BB3.out (Nat.le_refl _)⟩)
              repeat (go_big_quiet_step (fail))
              refine wpQuiet_nil ?_
              intro K hK
              go_wp2_with (at_builtin; refine wpList_appL v3 rfl (.tmp 25) (.tmp 27) 29 rfl w.heap.size 3 Tryz.underlying29 infoInt _ tk rfl VV3.out (w.heap.size) n rfl CC3.out (by have := HTD.out; simp; omega) BB3.out.size ?_)
              intro gq cq v4 ho hgr
              have hg := hgr.grown
              have hba : Below w.heap.size v3 v4 := below_of_grown hg BB3.out.size (fun q hq => (World.ownsRow.lt VV3.out q hq).1)
              have BB4 : Hid (Below w.heap.size w v4) := BB3.out.trans hba
              have VV4 := Lib.hid ho
              clear ho hg hba hgr
              refine hK _ _ trivial ?_
              clear hK K
              have RD4 := Lib.hid (show _ ∧ _ from ⟨Reads.below RT.out.1 BB4.out (Nat.le_refl _), Reads.below RT.out.2 BB4.out (Nat.le_refl _)⟩)
              repeat (go_big_quiet_step (fail))
              refine wpQuiet_nil ?_
              intro K hK
              go_wp2_with (at_builtin; refine wpList_appAll v4 rfl (.tmp 28) (.tmp 31) 29 rfl w.heap.size 3 Tryz.underlying29 infoInt _ (tk ++ [n]) dk rfl VV4.out _ rfl RD4.out.2 (by have := HTD.out; simp; omega) BB4.out.size ?_)
              intro vv v5 ho hg hge
              have hba : Below w.heap.size v4 v5 := below_of_grown hg BB4.out.size (fun q hq => (World.ownsRow.lt VV4.out q hq).1)
              have BB5 : Hid (Below w.heap.size w v5) := BB4.out.trans hba
              have VV5 := Lib.hid ho
              clear ho hg hba hge
              refine hK _ _ trivial ?_
              clear hK K
              have RD5 := Lib.hid (show _ ∧ _ from ⟨Reads.below RT.out.1 BB5.out (Nat.le_refl _), Reads.below RT.out.2 BB5.out (Nat.le_refl _)⟩)
              repeat (go_big_quiet_step (fail))
              refine wpQuiet_nil ?_
              rcases VV5.out.shape with ⟨_, h0⟩ | ⟨gz, cz, rfl⟩
              · simp at h0
              have e : Hid (R = tk ++ n :: dk) := by rw [Hid, HE.out]; simp
              go_wp2_with fail
              go_meet
              have eL : (tk ++ n :: dk).length = 0 + 1 := by rw [← e.out]; exact HRL.out
              have hv := VV5.out
              refine ⟨gz, cz, ?_, by rw [e.out]; simpa using hv, BB5.out⟩
              simp only [List.length_append, List.length_cons, List.length_nil] at eL ⊢
              first | rfl | (congr 1; done) | (congr 1; omega)
          case rest =>
            obtain ⟨g', cap', rfl, ho', hb'⟩ := hcut
            have RR := Lib.hid (show _ ∧ _ from ⟨ho', hb'⟩)
            clear ho' hb'
            go_wp2
            go_ret
            exact ⟨g', cap', rfl, RR.out.1, RR.out.2⟩
      · have hck := HHO.out.cell (k - 1) (by have := HM.out; omega)
        obtain ⟨y, hy⟩ : ∃ y, y = l.getD (k - 1) 0 := ⟨_, rfl⟩
        rw [← hy] at hck hle
        clear hy
        obtain ⟨k', rfl⟩ : ∃ k', k = k' + 1 := ⟨k - 1, by omega⟩
        rw [Nat.add_sub_cancel] at hck
        by_cases hkc : k' + 1 < cap
        · go_wp2_with fail
          go_cut [4] from 21 to 32 (fun q wx => ∃ g' cap', q = .slice (some ⟨g', 0, none⟩) (m + 1) cap' ∧ OwnI 3 wx w.heap.size q R ∧ Below w.heap.size w wx)
          case first =>
            go_wp2_with fail
            refine tree (S := fun _ => True) (Tr.two [false, true, true, true, false, true, false, false, true, true, true] 0 (Tr.two [] 4 (Tr.one [] 6 (Tr.one [] 7 (Tr.one [] 11 (Tr.leaf [false, false, false, false, false, false, false, false, false, false, false, false, true])))) 6 (Tr.one [] 4 (Tr.one [] 7 (Tr.one [] 11 (Tr.leaf [false, false, false, false, false, false, false, false, false, false, false, false, true]))))) 6 (Tr.one [] 0 (Tr.one [] 4 (Tr.one [] 7 (Tr.one [] 11 (Tr.leaf [false, false, false, false, false, false, false, false, false, false, false, false, true])))))) (by kernel_rfl) (by kernel_rfl) (by kernel_rfl) trivial ?_
            simp only [wpTr, pickB, List.toList_toArray, List.getElem?_toArray, List.getElem?_cons_succ, List.getElem?_cons_zero, Option.toList_some]
            have hne : Nonempty (Wd (fun _ : World => True)) := ⟨⟨w, trivial⟩⟩
            repeat (go_big_quiet_step (fail))
            refine wpQuiet_nil ?_
            constructor
            · intro K hK
              have BB0 : Hid (Below w.heap.size w w.drew) := (Below.refl _ _).drew
              have RD0 := Lib.hid (show _ ∧ _ from ⟨Reads.below RT.out.1 BB0.out (Nat.le_refl _), Reads.below RT.out.2 BB0.out (Nat.le_refl _)⟩)
              go_wp2_with fail
              obtain ⟨v1, hv1⟩ : ∃ q, q = (w.alloc (.cells #[] 3)).drew := ⟨_, rfl⟩
              have hba : Below w.heap.size w.drew v1 := by rw [hv1]; exact Below.trans (b := w) ⟨rfl, rfl, rfl, Nat.le_refl _, fun _ _ => rfl⟩ ((Below.refl w.heap.size w).alloc (Nat.le_refl _) _).drew
              have EE1 : Hid (OwnI 3 v1 w.heap.size (.slice (some ⟨w.heap.size, 0, none⟩) 0 0) []) := by rw [hv1]; exact emptyRow _ _ _ _ rfl BB0.out.size
              have BB1 : Hid (Below w.heap.size w v1) := BB0.out.trans (hba.mono BB0.out.size)
              rw [← hv1]
              refine hK _ _ trivial ?_
              clear hK K hv1 hba
              have RD1 := Lib.hid (show _ ∧ _ from ⟨Reads.below RT.out.1 BB1.out (Nat.le_refl _), Reads.below RT.out.2 BB1.out (Nat.le_refl _)⟩)
              repeat (go_big_quiet_step (fail))
              refine wpQuiet_nil ?_
              constructor
              · intro K hK
                go_wp2_with (at_builtin; refine wpList_appAll v1 rfl (.tmp 21) (.tmp 24) 29 rfl w.heap.size 3 Tryz.underlying29 infoInt _ [] tk rfl EE1.out _ rfl RD1.out.1 (by have := HTD.out; simp; omega) BB1.out.size ?_)
                intro vv v2 ho hg hge
                try rw [List.nil_append] at ho
                have hba : Below w.heap.size v1 v2 := below_of_grown hg BB1.out.size (fun q hq => (World.ownsRow.lt EE1.out q hq).1)
                have BB2 : Hid (Below w.heap.size w v2) := BB1.out.trans hba
                have VV2 := Lib.hid ho
                clear ho hg hba hge
                refine hK _ _ trivial ?_
                clear hK K
                have RD2 := Lib.hid (show _ ∧ _ from ⟨Reads.below RT.out.1 BB2.out (Nat.le_refl _), Reads.below RT.out.2 BB2.out (Nat.le_refl _)⟩)
                repeat (go_big_quiet_step (fail))
                refine wpQuiet_nil ?_
                intro K hK
                go_wp2_with fail
                obtain ⟨v3, hv3⟩ : ∃ q, q = v2.alloc (.cells #[.int .i64 n] 3) := ⟨_, rfl⟩
                have hba : Below v2.heap.size v2 v3 := by rw [hv3]; exact (Below.refl _ _).alloc (Nat.le_refl _) _
                have VV3 := Lib.hid (VV2.out.below hba (Nat.le_refl _))
                have CC3 : Hid (v3.cell? ⟨v2.heap.size, 0, none⟩ = some (.int .i64 n)) := by rw [hv3]; simp [Hid]
                have BB3 : Hid (Below w.heap.size w v3) := BB2.out.trans (hba.mono BB2.out.size)
                rw [← hv3]
                refine hK _ _ trivial ?_
                clear hK K hv3 hba
                have RD3 := Lib.hid (show _ ∧ _ from ⟨Reads.below RT.out.1 BB3.out (Nat.le_refl _), Reads.below RT.out.2 BB3.out (Nat.le_refl _)⟩)
                repeat (go_big_quiet_step (fail))
                refine wpQuiet_nil ?_
                intro K hK
                go_wp2_with (at_builtin; refine wpList_appL v3 rfl (.tmp 25) (.tmp 27) 29 rfl w.heap.size 3 Tryz.underlying29 infoInt _ tk rfl VV3.out (v2.heap.size) n rfl CC3.out (by have := HTD.out; simp; omega) BB3.out.size ?_)
                intro gq cq v4 ho hgr
                have hg := hgr.grown
                have hba : Below w.heap.size v3 v4 := below_of_grown hg BB3.out.size (fun q hq => (World.ownsRow.lt VV3.out q hq).1)
                have BB4 : Hid (Below w.heap.size w v4) := BB3.out.trans hba
                have VV4 := Lib.hid ho
                clear ho hg hba hgr
                refine hK _ _ trivial ?_
                clear hK K
                have RD4 := Lib.hid (show _ ∧ _ from ⟨Reads.below RT.out.1 BB4.out (Nat.le_refl _), Reads.below RT.out.2 BB4.out (Nat.le_refl _)⟩)
                repeat (go_big_quiet_step (fail))
                refine wpQuiet_nil ?_
                intro K hK
                go_wp2_with (at_builtin; refine wpList_appAll v4 rfl (.tmp 28) (.tmp 31) 29 rfl w.heap.size 3 Tryz.underlying29 infoInt _ (tk ++ [n]) dk rfl VV4.out _ rfl RD4.out.2 (by have := HTD.out; simp; omega) BB4.out.size ?_)
                intro vv v5 ho hg hge
                have hba : Below w.heap.size v4 v5 := below_of_grown hg BB4.out.size (fun q hq => (World.ownsRow.lt VV4.out q hq).1)
                have BB5 : Hid (Below w.heap.size w v5) := BB4.out.trans hba
                have VV5 := Lib.hid ho
                clear ho hg hba hge
                refine hK _ _ trivial ?_
                clear hK K
                have RD5 := Lib.hid (show _ ∧ _ from ⟨Reads.below RT.out.1 BB5.out (Nat.le_refl _), Reads.below RT.out.2 BB5.out (Nat.le_refl _)⟩)
                repeat (go_big_quiet_step (fail))
                refine wpQuiet_nil ?_
                rcases VV5.out.shape with ⟨_, h0⟩ | ⟨gz, cz, rfl⟩
                · simp at h0
                have e : Hid (R = tk ++ n :: dk) := by rw [Hid, HE.out]; simp
                go_wp2_with fail
                go_meet
                have eL : (tk ++ n :: dk).length = m + 1 := by rw [← e.out]; exact HRL.out
                have hv := VV5.out
                refine ⟨gz, cz, ?_, by rw [e.out]; simpa using hv, BB5.out⟩
                simp only [List.length_append, List.length_cons, List.length_nil] at eL ⊢
                first | rfl | (congr 1; done) | (congr 1; omega)
              · intro K hK
                go_wp2_with fail
                obtain ⟨v2, hv2⟩ : ∃ q, q = v1.alloc (.cells #[.int .i64 n] 3) := ⟨_, rfl⟩
                have hba : Below v1.heap.size v1 v2 := by rw [hv2]; exact (Below.refl _ _).alloc (Nat.le_refl _) _
                have EE2 := Lib.hid (EE1.out.below hba (Nat.le_refl _))
                have CC2 : Hid (v2.cell? ⟨v1.heap.size, 0, none⟩ = some (.int .i64 n)) := by rw [hv2]; simp [Hid]
                have HNE : Hid (v1.heap.size ≠ w.heap.size) := Nat.ne_of_gt (EE1.out.ge.2)
                have BB2 : Hid (Below w.heap.size w v2) := BB1.out.trans (hba.mono BB1.out.size)
                rw [← hv2]
                refine hK _ _ trivial ?_
                clear hK K hv2 hba
                have RD2 := Lib.hid (show _ ∧ _ from ⟨Reads.below RT.out.1 BB2.out (Nat.le_refl _), Reads.below RT.out.2 BB2.out (Nat.le_refl _)⟩)
                repeat (go_big_quiet_step (fail))
                refine wpQuiet_nil ?_
                intro K hK
                go_wp2_with (at_builtin; refine wpList_appAll v2 rfl (.tmp 21) (.tmp 24) 29 rfl w.heap.size 3 Tryz.underlying29 infoInt _ [] tk rfl EE2.out _ rfl RD2.out.1 (by have := HTD.out; simp; omega) BB2.out.size ?_)
                intro vv v3 ho hg hge
                try rw [List.nil_append] at ho
                have hba : Below w.heap.size v2 v3 := below_of_grown hg BB2.out.size (fun q hq => (World.ownsRow.lt EE2.out q hq).1)
                have BB3 : Hid (Below w.heap.size w v3) := BB2.out.trans hba
                have CC3 : Hid (v3.cell? ⟨v1.heap.size, 0, none⟩ = some (.int .i64 n)) := hg.cell CC2.out (by have := HNE.out; simpa [Value.ownBlock] using this)
                have VV3 := Lib.hid ho
                clear ho hg hba hge
                refine hK _ _ trivial ?_
                clear hK K
                have RD3 := Lib.hid (show _ ∧ _ from ⟨Reads.below RT.out.1 BB3.out (Nat.le_refl _), Reads.below RT.out.2 BB3.out (Nat.le_refl _)⟩)
                repeat (go_big_quiet_step (fail))
                refine wpQuiet_nil ?_
                intro K hK
                go_wp2_with (at_builtin; refine wpList_appL v3 rfl (.tmp 25) (.tmp 27) 29 rfl w.heap.size 3 Tryz.underlying29 infoInt _ tk rfl VV3.out (v1.heap.size) n rfl CC3.out (by have := HTD.out; simp; omega) BB3.out.size ?_)
                intro gq cq v4 ho hgr
                have hg := hgr.grown
                have hba : Below w.heap.size v3 v4 := below_of_grown hg BB3.out.size (fun q hq => (World.ownsRow.lt VV3.out q hq).1)
                have BB4 : Hid (Below w.heap.size w v4) := BB3.out.trans hba
                have VV4 := Lib.hid ho
                clear ho hg hba hgr
                refine hK _ _ trivial ?_
                clear hK K
                have RD4 := Lib.hid (show _ ∧ _ from ⟨Reads.below RT.out.1 BB4.out (Nat.le_refl _), Reads.below RT.out.2 BB4.out (Nat.le_refl _)⟩)
                repeat (go_big_quiet_step (fail))
                refine wpQuiet_nil ?_
                intro K hK
                go_wp2_with (at_builtin; refine wpList_appAll v4 rfl (.tmp 28) (.tmp 31) 29 rfl w.heap.size 3 Tryz.underlying29 infoInt _ (tk ++ [n]) dk rfl VV4.out _ rfl RD4.out.2 (by have := HTD.out; simp; omega) BB4.out.size ?_)
                intro vv v5 ho hg hge
                have hba : Below w.heap.size v4 v5 := below_of_grown hg BB4.out.size (fun q hq => (World.ownsRow.lt VV4.out q hq).1)
                have BB5 : Hid (Below w.heap.size w v5) := BB4.out.trans hba
                have VV5 := Lib.hid ho
                clear ho hg hba hge
                refine hK _ _ trivial ?_
                clear hK K
                have RD5 := Lib.hid (show _ ∧ _ from ⟨Reads.below RT.out.1 BB5.out (Nat.le_refl _), Reads.below RT.out.2 BB5.out (Nat.le_refl _)⟩)
                repeat (go_big_quiet_step (fail))
                refine wpQuiet_nil ?_
                rcases VV5.out.shape with ⟨_, h0⟩ | ⟨gz, cz, rfl⟩
                · simp at h0
                have e : Hid (R = tk ++ n :: dk) := by rw [Hid, HE.out]; simp
                go_wp2_with fail
                go_meet
                have eL : (tk ++ n :: dk).length = m + 1 := by rw [← e.out]; exact HRL.out
                have hv := VV5.out
                refine ⟨gz, cz, ?_, by rw [e.out]; simpa using hv, BB5.out⟩
                simp only [List.length_append, List.length_cons, List.length_nil] at eL ⊢
                first | rfl | (congr 1; done) | (congr 1; omega)
            · intro K hK
              have BB0 : Hid (Below w.heap.size w w.drew) := (Below.refl _ _).drew
              have RD0 := Lib.hid (show _ ∧ _ from ⟨Reads.below RT.out.1 BB0.out (Nat.le_refl _), Reads.below RT.out.2 BB0.out (Nat.le_refl _)⟩)
              go_wp2_with fail
              obtain ⟨v1, hv1⟩ : ∃ q, q = (w.alloc (.cells #[.int .i64 n] 3)).drew := ⟨_, rfl⟩
              have hba : Below w.heap.size w.drew v1 := by rw [hv1]; exact Below.trans (b := w) ⟨rfl, rfl, rfl, Nat.le_refl _, fun _ _ => rfl⟩ ((Below.refl w.heap.size w).alloc (Nat.le_refl _) _).drew
              have CC1 : Hid (v1.cell? ⟨w.heap.size, 0, none⟩ = some (.int .i64 n)) := by rw [hv1]; simp [Hid]
              have BB1 : Hid (Below w.heap.size w v1) := BB0.out.trans (hba.mono BB0.out.size)
              rw [← hv1]
              refine hK _ _ trivial ?_
              clear hK K hv1 hba
              have RD1 := Lib.hid (show _ ∧ _ from ⟨Reads.below RT.out.1 BB1.out (Nat.le_refl _), Reads.below RT.out.2 BB1.out (Nat.le_refl _)⟩)
              repeat (go_big_quiet_step (fail))
              refine wpQuiet_nil ?_
              intro K hK
              go_wp2_with fail
              obtain ⟨v2, hv2⟩ : ∃ q, q = v1.alloc (.cells #[] 3) := ⟨_, rfl⟩
              have hba : Below v1.heap.size v1 v2 := by rw [hv2]; exact (Below.refl _ _).alloc (Nat.le_refl _) _
              have CC2 : Hid (v2.cell? ⟨w.heap.size, 0, none⟩ = some (.int .i64 n)) := keepCell hba CC1.out
              have EE2 : Hid (OwnI 3 v2 w.heap.size (.slice (some ⟨v1.heap.size, 0, none⟩) 0 0) []) := by rw [hv2]; exact emptyRow _ _ _ _ rfl BB1.out.size
              have HNE : Hid (w.heap.size ≠ v1.heap.size) := Nat.ne_of_lt (World.block_lt_of_cell? _ _ CC1.out)
              have BB2 : Hid (Below w.heap.size w v2) := BB1.out.trans (hba.mono BB1.out.size)
              rw [← hv2]
              refine hK _ _ trivial ?_
              clear hK K hv2 hba
              have RD2 := Lib.hid (show _ ∧ _ from ⟨Reads.below RT.out.1 BB2.out (Nat.le_refl _), Reads.below RT.out.2 BB2.out (Nat.le_refl _)⟩)
              repeat (go_big_quiet_step (fail))
              refine wpQuiet_nil ?_
              intro K hK
              go_wp2_with (at_builtin; refine wpList_appAll v2 rfl (.tmp 21) (.tmp 24) 29 rfl w.heap.size 3 Tryz.underlying29 infoInt _ [] tk rfl EE2.out _ rfl RD2.out.1 (by have := HTD.out; simp; omega) BB2.out.size ?_)
              intro vv v3 ho hg hge
              try rw [List.nil_append] at ho
              have hba : Below w.heap.size v2 v3 := below_of_grown hg BB2.out.size (fun q hq => (World.ownsRow.lt EE2.out q hq).1)
              have BB3 : Hid (Below w.heap.size w v3) := BB2.out.trans hba
              have CC3 : Hid (v3.cell? ⟨w.heap.size, 0, none⟩ = some (.int .i64 n)) := hg.cell CC2.out (by have := HNE.out; simpa [Value.ownBlock] using this)
              have VV3 := Lib.hid ho
              clear ho hg hba hge
              refine hK _ _ trivial ?_
              clear hK K
              have RD3 := Lib.hid (show _ ∧ _ from ⟨Reads.below RT.out.1 BB3.out (Nat.le_refl _), Reads.below RT.out.2 BB3.out (Nat.le_refl _)⟩)
              repeat (go_big_quiet_step (fail))
              refine wpQuiet_nil ?_
              intro K hK
              go_wp2_with (at_builtin; refine wpList_appL v3 rfl (.tmp 25) (.tmp 27) 29 rfl w.heap.size 3 Tryz.underlying29 infoInt _ tk rfl VV3.out (w.heap.size) n rfl CC3.out (by have := HTD.out; simp; omega) BB3.out.size ?_)
              intro gq cq v4 ho hgr
              have hg := hgr.grown
              have hba : Below w.heap.size v3 v4 := below_of_grown hg BB3.out.size (fun q hq => (World.ownsRow.lt VV3.out q hq).1)
              have BB4 : Hid (Below w.heap.size w v4) := BB3.out.trans hba
              have VV4 := Lib.hid ho
              clear ho hg hba hgr
              refine hK _ _ trivial ?_
              clear hK K
              have RD4 := Lib.hid (show _ ∧ _ from ⟨Reads.below RT.out.1 BB4.out (Nat.le_refl _), Reads.below RT.out.2 BB4.out (Nat.le_refl _)⟩)
              repeat (go_big_quiet_step (fail))
              refine wpQuiet_nil ?_
              intro K hK
              go_wp2_with (at_builtin; refine wpList_appAll v4 rfl (.tmp 28) (.tmp 31) 29 rfl w.heap.size 3 Tryz.underlying29 infoInt _ (tk ++ [n]) dk rfl VV4.out _ rfl RD4.out.2 (by have := HTD.out; simp; omega) BB4.out.size ?_)
              intro vv v5 ho hg hge
              have hba : Below w.heap.size v4 v5 := below_of_grown hg BB4.out.size (fun q hq => (World.ownsRow.lt VV4.out q hq).1)
              have BB5 : Hid (Below w.heap.size w v5) := BB4.out.trans hba
              have VV5 := Lib.hid ho
              clear ho hg hba hge
              refine hK _ _ trivial ?_
              clear hK K
              have RD5 := Lib.hid (show _ ∧ _ from ⟨Reads.below RT.out.1 BB5.out (Nat.le_refl _), Reads.below RT.out.2 BB5.out (Nat.le_refl _)⟩)
              repeat (go_big_quiet_step (fail))
              refine wpQuiet_nil ?_
              rcases VV5.out.shape with ⟨_, h0⟩ | ⟨gz, cz, rfl⟩
              · simp at h0
              have e : Hid (R = tk ++ n :: dk) := by rw [Hid, HE.out]; simp
              go_wp2_with fail
              go_meet
              have eL : (tk ++ n :: dk).length = m + 1 := by rw [← e.out]; exact HRL.out
              have hv := VV5.out
              refine ⟨gz, cz, ?_, by rw [e.out]; simpa using hv, BB5.out⟩
              simp only [List.length_append, List.length_cons, List.length_nil] at eL ⊢
              first | rfl | (congr 1; done) | (congr 1; omega)
          case rest =>
            obtain ⟨g', cap', rfl, ho', hb'⟩ := hcut
            have RR := Lib.hid (show _ ∧ _ from ⟨ho', hb'⟩)
            clear ho' hb'
            go_wp2
            go_ret
            exact ⟨g', cap', rfl, RR.out.1, RR.out.2⟩
        · have hkc2 : cap = k' + 1 := by omega
          have hkm2 : m = k' + 1 := by omega
          subst hkc2
          subst hkm2
          have hdk0 : dk = [] := List.length_eq_zero_iff.1 (by have := HTD.out.2; omega)
          have RT2 : Hid (Reads w (.slice (some ⟨g, 0, none⟩) (k' + 1) (k' + 1)) tk ∧ Reads w (.slice (some ⟨g, 0, none⟩) 0 0) dk) := ⟨by have h := RT.out.1; exact h, by rw [hdk0]; exact ⟨some ⟨g, 0, none⟩, 0, rfl, .inl rfl, fun h => by cases h⟩⟩
          clear RT hdk0
          have RT := RT2
          clear RT2
          go_wp2_with fail
          go_cut [4] from 21 to 32 (fun q wx => ∃ g' cap', q = .slice (some ⟨g', 0, none⟩) (k' + 1 + 1) cap' ∧ OwnI 3 wx w.heap.size q R ∧ Below w.heap.size w wx)
          case first =>
            go_wp2_with fail
            refine tree (S := fun _ => True) (Tr.two [false, true, true, true, false, true, false, false, true, true, true] 0 (Tr.two [] 4 (Tr.one [] 6 (Tr.one [] 7 (Tr.one [] 11 (Tr.leaf [false, false, false, false, false, false, false, false, false, false, false, false, true])))) 6 (Tr.one [] 4 (Tr.one [] 7 (Tr.one [] 11 (Tr.leaf [false, false, false, false, false, false, false, false, false, false, false, false, true]))))) 6 (Tr.one [] 0 (Tr.one [] 4 (Tr.one [] 7 (Tr.one [] 11 (Tr.leaf [false, false, false, false, false, false, false, false, false, false, false, false, true])))))) (by kernel_rfl) (by kernel_rfl) (by kernel_rfl) trivial ?_
            simp only [wpTr, pickB, List.toList_toArray, List.getElem?_toArray, List.getElem?_cons_succ, List.getElem?_cons_zero, Option.toList_some]
            have hne : Nonempty (Wd (fun _ : World => True)) := ⟨⟨w, trivial⟩⟩
            repeat (go_big_quiet_step (fail))
            refine wpQuiet_nil ?_
            constructor
            · intro K hK
              have BB0 : Hid (Below w.heap.size w w.drew) := (Below.refl _ _).drew
              have RD0 := Lib.hid (show _ ∧ _ from ⟨Reads.below RT.out.1 BB0.out (Nat.le_refl _), Reads.below RT.out.2 BB0.out (Nat.le_refl _)⟩)
              go_wp2_with fail
              obtain ⟨v1, hv1⟩ : ∃ q, q = (w.alloc (.cells #[] 3)).drew := ⟨_, rfl⟩
              have hba : Below w.heap.size w.drew v1 := by rw [hv1]; exact Below.trans (b := w) ⟨rfl, rfl, rfl, Nat.le_refl _, fun _ _ => rfl⟩ ((Below.refl w.heap.size w).alloc (Nat.le_refl _) _).drew
              have EE1 : Hid (OwnI 3 v1 w.heap.size (.slice (some ⟨w.heap.size, 0, none⟩) 0 0) []) := by rw [hv1]; exact emptyRow _ _ _ _ rfl BB0.out.size
              have BB1 : Hid (Below w.heap.size w v1) := BB0.out.trans (hba.mono BB0.out.size)
              rw [← hv1]
              refine hK _ _ trivial ?_
              clear hK K hv1 hba
              have RD1 := Lib.hid (show _ ∧ _ from ⟨Reads.below RT.out.1 BB1.out (Nat.le_refl _), Reads.below RT.out.2 BB1.out (Nat.le_refl _)⟩)
              repeat (go_big_quiet_step (fail))
              refine wpQuiet_nil ?_
              constructor
              · intro K hK
                go_wp2_with (at_builtin; refine wpList_appAll v1 rfl (.tmp 21) (.tmp 24) 29 rfl w.heap.size 3 Tryz.underlying29 infoInt _ [] tk rfl EE1.out _ rfl RD1.out.1 (by have := HTD.out; simp; omega) BB1.out.size ?_)
                intro vv v2 ho hg hge
                try rw [List.nil_append] at ho
                have hba : Below w.heap.size v1 v2 := below_of_grown hg BB1.out.size (fun q hq => (World.ownsRow.lt EE1.out q hq).1)
                have BB2 : Hid (Below w.heap.size w v2) := BB1.out.trans hba
                have VV2 := Lib.hid ho
                clear ho hg hba hge
                refine hK _ _ trivial ?_
                clear hK K
                have RD2 := Lib.hid (show _ ∧ _ from ⟨Reads.below RT.out.1 BB2.out (Nat.le_refl _), Reads.below RT.out.2 BB2.out (Nat.le_refl _)⟩)
                repeat (go_big_quiet_step (fail))
                refine wpQuiet_nil ?_
                intro K hK
                go_wp2_with fail
                obtain ⟨v3, hv3⟩ : ∃ q, q = v2.alloc (.cells #[.int .i64 n] 3) := ⟨_, rfl⟩
                have hba : Below v2.heap.size v2 v3 := by rw [hv3]; exact (Below.refl _ _).alloc (Nat.le_refl _) _
                have VV3 := Lib.hid (VV2.out.below hba (Nat.le_refl _))
                have CC3 : Hid (v3.cell? ⟨v2.heap.size, 0, none⟩ = some (.int .i64 n)) := by rw [hv3]; simp [Hid]
                have BB3 : Hid (Below w.heap.size w v3) := BB2.out.trans (hba.mono BB2.out.size)
                rw [← hv3]
                refine hK _ _ trivial ?_
                clear hK K hv3 hba
                have RD3 := Lib.hid (show _ ∧ _ from ⟨Reads.below RT.out.1 BB3.out (Nat.le_refl _), Reads.below RT.out.2 BB3.out (Nat.le_refl _)⟩)
                repeat (go_big_quiet_step (fail))
                refine wpQuiet_nil ?_
                intro K hK
                go_wp2_with (at_builtin; refine wpList_appL v3 rfl (.tmp 25) (.tmp 27) 29 rfl w.heap.size 3 Tryz.underlying29 infoInt _ tk rfl VV3.out (v2.heap.size) n rfl CC3.out (by have := HTD.out; simp; omega) BB3.out.size ?_)
                intro gq cq v4 ho hgr
                have hg := hgr.grown
                have hba : Below w.heap.size v3 v4 := below_of_grown hg BB3.out.size (fun q hq => (World.ownsRow.lt VV3.out q hq).1)
                have BB4 : Hid (Below w.heap.size w v4) := BB3.out.trans hba
                have VV4 := Lib.hid ho
                clear ho hg hba hgr
                refine hK _ _ trivial ?_
                clear hK K
                have RD4 := Lib.hid (show _ ∧ _ from ⟨Reads.below RT.out.1 BB4.out (Nat.le_refl _), Reads.below RT.out.2 BB4.out (Nat.le_refl _)⟩)
                repeat (go_big_quiet_step (fail))
                refine wpQuiet_nil ?_
                intro K hK
                go_wp2_with (at_builtin; refine wpList_appAll v4 rfl (.tmp 28) (.tmp 31) 29 rfl w.heap.size 3 Tryz.underlying29 infoInt _ (tk ++ [n]) dk rfl VV4.out _ rfl RD4.out.2 (by have := HTD.out; simp; omega) BB4.out.size ?_)
                intro vv v5 ho hg hge
                have hba : Below w.heap.size v4 v5 := below_of_grown hg BB4.out.size (fun q hq => (World.ownsRow.lt VV4.out q hq).1)
                have BB5 : Hid (Below w.heap.size w v5) := BB4.out.trans hba
                have VV5 := Lib.hid ho
                clear ho hg hba hge
                refine hK _ _ trivial ?_
                clear hK K
                have RD5 := Lib.hid (show _ ∧ _ from ⟨Reads.below RT.out.1 BB5.out (Nat.le_refl _), Reads.below RT.out.2 BB5.out (Nat.le_refl _)⟩)
                repeat (go_big_quiet_step (fail))
                refine wpQuiet_nil ?_
                rcases VV5.out.shape with ⟨_, h0⟩ | ⟨gz, cz, rfl⟩
                · simp at h0
                have e : Hid (R = tk ++ n :: dk) := by rw [Hid, HE.out]; simp
                go_wp2_with fail
                go_meet
                have eL : (tk ++ n :: dk).length = k' + 1 + 1 := by rw [← e.out]; exact HRL.out
                have hv := VV5.out
                refine ⟨gz, cz, ?_, by rw [e.out]; simpa using hv, BB5.out⟩
                simp only [List.length_append, List.length_cons, List.length_nil] at eL ⊢
                first | rfl | (congr 1; done) | (congr 1; omega)
              · intro K hK
                go_wp2_with fail
                obtain ⟨v2, hv2⟩ : ∃ q, q = v1.alloc (.cells #[.int .i64 n] 3) := ⟨_, rfl⟩
                have hba : Below v1.heap.size v1 v2 := by rw [hv2]; exact (Below.refl _ _).alloc (Nat.le_refl _) _
                have EE2 := Lib.hid (EE1.out.below hba (Nat.le_refl _))
                have CC2 : Hid (v2.cell? ⟨v1.heap.size, 0, none⟩ = some (.int .i64 n)) := by rw [hv2]; simp [Hid]
                have HNE : Hid (v1.heap.size ≠ w.heap.size) := Nat.ne_of_gt (EE1.out.ge.2)
                have BB2 : Hid (Below w.heap.size w v2) := BB1.out.trans (hba.mono BB1.out.size)
                rw [← hv2]
                refine hK _ _ trivial ?_
                clear hK K hv2 hba
                have RD2 := Lib.hid (show _ ∧ _ from ⟨Reads.below RT.out.1 BB2.out (Nat.le_refl _), Reads.below RT.out.2 BB2.out (Nat.le_refl _)⟩)
                repeat (go_big_quiet_step (fail))
                refine wpQuiet_nil ?_
                intro K hK
                go_wp2_with (at_builtin; refine wpList_appAll v2 rfl (.tmp 21) (.tmp 24) 29 rfl w.heap.size 3 Tryz.underlying29 infoInt _ [] tk rfl EE2.out _ rfl RD2.out.1 (by have := HTD.out; simp; omega) BB2.out.size ?_)
                intro vv v3 ho hg hge
                try rw [List.nil_append] at ho
                have hba : Below w.heap.size v2 v3 := below_of_grown hg BB2.out.size (fun q hq => (World.ownsRow.lt EE2.out q hq).1)
                have BB3 : Hid (Below w.heap.size w v3) := BB2.out.trans hba
                have CC3 : Hid (v3.cell? ⟨v1.heap.size, 0, none⟩ = some (.int .i64 n)) := hg.cell CC2.out (by have := HNE.out; simpa [Value.ownBlock] using this)
                have VV3 := Lib.hid ho
                clear ho hg hba hge
                refine hK _ _ trivial ?_
                clear hK K
                have RD3 := Lib.hid (show _ ∧ _ from ⟨Reads.below RT.out.1 BB3.out (Nat.le_refl _), Reads.below RT.out.2 BB3.out (Nat.le_refl _)⟩)
                repeat (go_big_quiet_step (fail))
                refine wpQuiet_nil ?_
                intro K hK
                go_wp2_with (at_builtin; refine wpList_appL v3 rfl (.tmp 25) (.tmp 27) 29 rfl w.heap.size 3 Tryz.underlying29 infoInt _ tk rfl VV3.out (v1.heap.size) n rfl CC3.out (by have := HTD.out; simp; omega) BB3.out.size ?_)
                intro gq cq v4 ho hgr
                have hg := hgr.grown
                have hba : Below w.heap.size v3 v4 := below_of_grown hg BB3.out.size (fun q hq => (World.ownsRow.lt VV3.out q hq).1)
                have BB4 : Hid (Below w.heap.size w v4) := BB3.out.trans hba
                have VV4 := Lib.hid ho
                clear ho hg hba hgr
                refine hK _ _ trivial ?_
                clear hK K
                have RD4 := Lib.hid (show _ ∧ _ from ⟨Reads.below RT.out.1 BB4.out (Nat.le_refl _), Reads.below RT.out.2 BB4.out (Nat.le_refl _)⟩)
                repeat (go_big_quiet_step (fail))
                refine wpQuiet_nil ?_
                intro K hK
                go_wp2_with (at_builtin; refine wpList_appAll v4 rfl (.tmp 28) (.tmp 31) 29 rfl w.heap.size 3 Tryz.underlying29 infoInt _ (tk ++ [n]) dk rfl VV4.out _ rfl RD4.out.2 (by have := HTD.out; simp; omega) BB4.out.size ?_)
                intro vv v5 ho hg hge
                have hba : Below w.heap.size v4 v5 := below_of_grown hg BB4.out.size (fun q hq => (World.ownsRow.lt VV4.out q hq).1)
                have BB5 : Hid (Below w.heap.size w v5) := BB4.out.trans hba
                have VV5 := Lib.hid ho
                clear ho hg hba hge
                refine hK _ _ trivial ?_
                clear hK K
                have RD5 := Lib.hid (show _ ∧ _ from ⟨Reads.below RT.out.1 BB5.out (Nat.le_refl _), Reads.below RT.out.2 BB5.out (Nat.le_refl _)⟩)
                repeat (go_big_quiet_step (fail))
                refine wpQuiet_nil ?_
                rcases VV5.out.shape with ⟨_, h0⟩ | ⟨gz, cz, rfl⟩
                · simp at h0
                have e : Hid (R = tk ++ n :: dk) := by rw [Hid, HE.out]; simp
                go_wp2_with fail
                go_meet
                have eL : (tk ++ n :: dk).length = k' + 1 + 1 := by rw [← e.out]; exact HRL.out
                have hv := VV5.out
                refine ⟨gz, cz, ?_, by rw [e.out]; simpa using hv, BB5.out⟩
                simp only [List.length_append, List.length_cons, List.length_nil] at eL ⊢
                first | rfl | (congr 1; done) | (congr 1; omega)
            · intro K hK
              have BB0 : Hid (Below w.heap.size w w.drew) := (Below.refl _ _).drew
              have RD0 := Lib.hid (show _ ∧ _ from ⟨Reads.below RT.out.1 BB0.out (Nat.le_refl _), Reads.below RT.out.2 BB0.out (Nat.le_refl _)⟩)
              go_wp2_with fail
              obtain ⟨v1, hv1⟩ : ∃ q, q = (w.alloc (.cells #[.int .i64 n] 3)).drew := ⟨_, rfl⟩
              have hba : Below w.heap.size w.drew v1 := by rw [hv1]; exact Below.trans (b := w) ⟨rfl, rfl, rfl, Nat.le_refl _, fun _ _ => rfl⟩ ((Below.refl w.heap.size w).alloc (Nat.le_refl _) _).drew
              have CC1 : Hid (v1.cell? ⟨w.heap.size, 0, none⟩ = some (.int .i64 n)) := by rw [hv1]; simp [Hid]
              have BB1 : Hid (Below w.heap.size w v1) := BB0.out.trans (hba.mono BB0.out.size)
              rw [← hv1]
              refine hK _ _ trivial ?_
              clear hK K hv1 hba
              have RD1 := Lib.hid (show _ ∧ _ from ⟨Reads.below RT.out.1 BB1.out (Nat.le_refl _), Reads.below RT.out.2 BB1.out (Nat.le_refl _)⟩)
              repeat (go_big_quiet_step (fail))
              refine wpQuiet_nil ?_
              intro K hK
              go_wp2_with fail
              obtain ⟨v2, hv2⟩ : ∃ q, q = v1.alloc (.cells #[] 3) := ⟨_, rfl⟩
              have hba : Below v1.heap.size v1 v2 := by rw [hv2]; exact (Below.refl _ _).alloc (Nat.le_refl _) _
              have CC2 : Hid (v2.cell? ⟨w.heap.size, 0, none⟩ = some (.int .i64 n)) := keepCell hba CC1.out
              have EE2 : Hid (OwnI 3 v2 w.heap.size (.slice (some ⟨v1.heap.size, 0, none⟩) 0 0) []) := by rw [hv2]; exact emptyRow _ _ _ _ rfl BB1.out.size
              have HNE : Hid (w.heap.size ≠ v1.heap.size) := Nat.ne_of_lt (World.block_lt_of_cell? _ _ CC1.out)
              have BB2 : Hid (Below w.heap.size w v2) := BB1.out.trans (hba.mono BB1.out.size)
              rw [← hv2]
              refine hK _ _ trivial ?_
              clear hK K hv2 hba
              have RD2 := Lib.hid (show _ ∧ _ from ⟨Reads.below RT.out.1 BB2.out (Nat.le_refl _), Reads.below RT.out.2 BB2.out (Nat.le_refl _)⟩)
              repeat (go_big_quiet_step (fail))
              refine wpQuiet_nil ?_
              intro K hK
              go_wp2_with (at_builtin; refine wpList_appAll v2 rfl (.tmp 21) (.tmp 24) 29 rfl w.heap.size 3 Tryz.underlying29 infoInt _ [] tk rfl EE2.out _ rfl RD2.out.1 (by have := HTD.out; simp; omega) BB2.out.size ?_)
              intro vv v3 ho hg hge
              try rw [List.nil_append] at ho
              have hba : Below w.heap.size v2 v3 := below_of_grown hg BB2.out.size (fun q hq => (World.ownsRow.lt EE2.out q hq).1)
              have BB3 : Hid (Below w.heap.size w v3) := BB2.out.trans hba
              have CC3 : Hid (v3.cell? ⟨w.heap.size, 0, none⟩ = some (.int .i64 n)) := hg.cell CC2.out (by have := HNE.out; simpa [Value.ownBlock] using this)
              have VV3 := Lib.hid ho
              clear ho hg hba hge
              refine hK _ _ trivial ?_
              clear hK K
              have RD3 := Lib.hid (show _ ∧ _ from ⟨Reads.below RT.out.1 BB3.out (Nat.le_refl _), Reads.below RT.out.2 BB3.out (Nat.le_refl _)⟩)
              repeat (go_big_quiet_step (fail))
              refine wpQuiet_nil ?_
              intro K hK
              go_wp2_with (at_builtin; refine wpList_appL v3 rfl (.tmp 25) (.tmp 27) 29 rfl w.heap.size 3 Tryz.underlying29 infoInt _ tk rfl VV3.out (w.heap.size) n rfl CC3.out (by have := HTD.out; simp; omega) BB3.out.size ?_)
              intro gq cq v4 ho hgr
              have hg := hgr.grown
              have hba : Below w.heap.size v3 v4 := below_of_grown hg BB3.out.size (fun q hq => (World.ownsRow.lt VV3.out q hq).1)
              have BB4 : Hid (Below w.heap.size w v4) := BB3.out.trans hba
              have VV4 := Lib.hid ho
              clear ho hg hba hgr
              refine hK _ _ trivial ?_
              clear hK K
              have RD4 := Lib.hid (show _ ∧ _ from ⟨Reads.below RT.out.1 BB4.out (Nat.le_refl _), Reads.below RT.out.2 BB4.out (Nat.le_refl _)⟩)
              repeat (go_big_quiet_step (fail))
              refine wpQuiet_nil ?_
              intro K hK
              go_wp2_with (at_builtin; refine wpList_appAll v4 rfl (.tmp 28) (.tmp 31) 29 rfl w.heap.size 3 Tryz.underlying29 infoInt _ (tk ++ [n]) dk rfl VV4.out _ rfl RD4.out.2 (by have := HTD.out; simp; omega) BB4.out.size ?_)
              intro vv v5 ho hg hge
              have hba : Below w.heap.size v4 v5 := below_of_grown hg BB4.out.size (fun q hq => (World.ownsRow.lt VV4.out q hq).1)
              have BB5 : Hid (Below w.heap.size w v5) := BB4.out.trans hba
              have VV5 := Lib.hid ho
              clear ho hg hba hge
              refine hK _ _ trivial ?_
              clear hK K
              have RD5 := Lib.hid (show _ ∧ _ from ⟨Reads.below RT.out.1 BB5.out (Nat.le_refl _), Reads.below RT.out.2 BB5.out (Nat.le_refl _)⟩)
              repeat (go_big_quiet_step (fail))
              refine wpQuiet_nil ?_
              rcases VV5.out.shape with ⟨_, h0⟩ | ⟨gz, cz, rfl⟩
              · simp at h0
              have e : Hid (R = tk ++ n :: dk) := by rw [Hid, HE.out]; simp
              go_wp2_with fail
              go_meet
              have eL : (tk ++ n :: dk).length = k' + 1 + 1 := by rw [← e.out]; exact HRL.out
              have hv := VV5.out
              refine ⟨gz, cz, ?_, by rw [e.out]; simpa using hv, BB5.out⟩
              simp only [List.length_append, List.length_cons, List.length_nil] at eL ⊢
              first | rfl | (congr 1; done) | (congr 1; omega)
          case rest =>
            obtain ⟨g', cap', rfl, ho', hb'⟩ := hcut
            have RR := Lib.hid (show _ ∧ _ from ⟨ho', hb'⟩)
            clear ho' hb'
            go_wp2
            go_ret
            exact ⟨g', cap', rfl, RR.out.1, RR.out.2⟩
    · have hck := HO.out.cell (k - 1) (by have := HM.out; omega)
      obtain ⟨y, hy⟩ : ∃ y, y = l.getD (k - 1) 0 := ⟨_, rfl⟩
      rw [← hy] at hck hgt
      have HN : Hid (∀ j, k - 1 ≤ j → j < m → n < l.getD j 0) := fun j h1 h2 => by
        by_cases e : j = k - 1
        · subst e; rw [← hy]; exact hgt
        · exact hlo.out j (by omega) h2
      obtain ⟨k', rfl⟩ : ∃ k', k = k' + 1 := ⟨k - 1, by omega⟩
      rw [Nat.add_sub_cancel] at hck HN
      clear hy hlo FIN
      go_wp2
      go_round
      case rel => exact ⟨k', by omega, by go_num, HN⟩
      case measure => simp [intOf]
end Go.Proofs.YtpcnoiigbmiejaaGreatDoor.srt

/- l8Describe of the reference: an element's description by the colours of all. -/
namespace Go.Proofs.YtpcnoiigbmiejaaGreatDoor.descr
set_option linter.unusedVariables false
set_option linter.unusedSimpArgs false
open Go.ChangeShapes Go.WideShapes Go.ChangeAt Go.RowKit
open Go.Proofs.YtpcnoiigbmiejaaGreatDoor.lib Go.Proofs.YtpcnoiigbmiejaaGreatDoor.st Go.Proofs.YtpcnoiigbmiejaaGreatDoor.base Go.Proofs.YtpcnoiigbmiejaaGreatDoor.col Go.Proofs.YtpcnoiigbmiejaaGreatDoor.sll Go.Proofs.YtpcnoiigbmiejaaGreatDoor.kind Go.Proofs.YtpcnoiigbmiejaaGreatDoor.srt

theorem sortI_nil : sortI [] = [] := by simp [sortI]
theorem way_zero (a : St) (c : List Int) (x k : Nat) : way a c x k 0 = [] := rfl
theorem way_yes {a : St} {c : List Int} {x k m : Nat} (h1 : m ≠ x) (h2 : kindOf a x m = k) : way a c x k (m + 1) = way a c x k m ++ [c.getD m 0] := by
  have : (m != x) = true := by simpa using h1
  simp [way, List.range_succ, this, h2]
theorem way_no {a : St} {c : List Int} {x k m : Nat} (h : m = x ∨ kindOf a x m ≠ k) : way a c x k (m + 1) = way a c x k m := by
  rcases h with h | h
  · simp [way, List.range_succ, h]
  · simp [way, List.range_succ, h]
theorem way_len (a : St) (c : List Int) (x k m : Nat) : (way a c x k m).length ≤ m := by
  unfold way
  rw [List.length_map]
  have := List.length_filter_le (fun y => y != x && kindOf a x y == k) (List.range m)
  rw [List.length_range] at this; exact this
theorem descTo_zero (a : St) (c : List Int) (x : Nat) : descTo a c x 0 = [c.getD x 0] := by simp [descTo]
theorem descTo_succ (a : St) (c : List Int) (x k : Nat) : descTo a c x (k + 1) = descTo a c x k ++ [((way a c x k a.n).length : Int)] ++ sortI (way a c x k a.n) := by
  simp [descTo, List.range_succ, wayOut]
theorem descTo_len (a : St) (c : List Int) (x k : Nat) : (descTo a c x k).length ≤ 1 + k * (a.n + 1) := by
  induction k with
  | zero => rw [descTo_zero]; simp
  | succ k ih =>
    have := way_len a c x k a.n
    rw [descTo_succ, List.length_append, List.length_append, sortI_len, Nat.succ_mul]
    simp only [List.length_cons, List.length_nil]
    omega
theorem kindOf_lt (a : St) (x y : Nat) : kindOf a x y ≤ 3 := by
  unfold kindOf n01
  split <;> split <;> omega
theorem int_spot {w : World} {ao : Option Addr} {n cap : Nat} {l : List Int} (h : Reads w (.slice ao n cap) l) (hn : n = l.length) (h1 : 1 ≤ n) :
    ∃ b off, ao = some ⟨b, off, none⟩ ∧ b < w.heap.size ∧ ∀ i, i < n → w.cell? ⟨b, off + i, none⟩ = some (.int .i64 (l.getD i 0)) := by
  obtain ⟨ao', c', hv', hc', _⟩ := h
  simp only [Value.slice.injEq] at hv'
  rcases hc' with h | ⟨b, off, he, hc⟩
  · rw [h] at hn; simp at hn; omega
  · exact ⟨b, off, hv'.1.trans he, World.block_lt_of_cell? w _ (hc 0 (by omega)), fun i hi => hc i (by omega)⟩

set_option maxHeartbeats 6400000 in
set_option maxRecDepth 100000 in
theorem l8Describe_any (N : Nat) (s r : ByteArray) (c : List Int) (v : Value) (x : Nat) (w : World) (hx : x < N) (hn : N ≤ 8) (hr : r.size = N * N) (hv : Reads w v c) (hc : c.length = N) :
    Calls Tryz.prog 138 #[.agg #[.int .i64 N, .string s, .string r], v, .int .i64 x] w fun e w' => ∃ v0, e = .returned v0 ∧ OwnI 3 w' w.heap.size v0 (desc ⟨N, s, r⟩ c x) ∧ Below w.heap.size w w' := by
  obtain ⟨ao, cap, rfl⟩ := hv.len
  rw [hc] at hv ⊢
  obtain ⟨b, off, rfl, hbw, hcell⟩ := int_spot hv hc.symm (by omega)
  obtain ⟨W1, hW1⟩ : ∃ W1, W1 = w.alloc (.cells #[.int .i64 N, .string s, .string r] 24) := ⟨_, rfl⟩
  have BX : Hid (Box 24 W1 w.heap.size N s r) := by rw [hW1]; exact Box.new _ w _ rfl _ _ _
  have AW : Hid (Below w.heap.size w W1) := by rw [hW1]; exact (Below.refl _ _).alloc (Nat.le_refl _) _
  have Z1 : Hid (W1.heap.size = w.heap.size + 1) := by rw [Hid, hW1]; simp
  have HC := Lib.hid hcell
  obtain ⟨cx, hcx⟩ : ∃ cx, cx = c.getD x 0 := ⟨_, rfl⟩
  have k0 : w.cell? ⟨b, off + x, none⟩ = some (.int .i64 cx) := by rw [hcx]; exact hcell x hx
  have HCX := Lib.hid hcx
  have HW1 := Lib.hid hW1
  have HR := Lib.hid (show _ ∧ _ from ⟨hr, hc⟩)
  have A2 : Hid (Below W1.heap.size W1 (W1.alloc (.cells #[.int .i64 cx] 3))) := (Below.refl _ _).alloc (Nat.le_refl _) _
  have START : Hid (OwnI 3 (W1.alloc (.cells #[.int .i64 cx] 3)) W1.heap.size (.slice (some ⟨w.heap.size + 1, 0, none⟩) 1 1) (descTo ⟨N, s, r⟩ c x 0) ∧ Below W1.heap.size W1 (W1.alloc (.cells #[.int .i64 cx] 3))) :=
    ⟨by rw [descTo_zero, ← hcx, ← Z1.out]; exact oneRow _ _ _ _ _ rfl (Nat.le_refl _), A2.out⟩
  clear hv hc hr hcell hcx hW1
  go_enter Tryz.func138, Tryz.ntmps138
  go_wp2_with fail
  rw [← HW1.out]
  obtain ⟨HB, hHB⟩ : ∃ HB, HB = W1.heap.size := ⟨_, rfl⟩
  have hwB : w.heap.size < HB := by have := Z1.out; omega
  have HHB := Lib.hid hHB
  rw [← hHB] at START
  have h1 : (1 : Nat) = (descTo ⟨N, s, r⟩ c x 0).length := by rw [descTo_zero]; rfl
  have H1 := Lib.hid h1
  try rw [← HHB.out]
  clear h1 hHB k0 A2
  go_loopw [7, 8] (fun u i wr => ∃ (k g cp : Nat), k ≤ 4 ∧ i = .int .i64 k ∧ u = .slice (some ⟨g, 0, none⟩) (descTo ⟨N, s, r⟩ c x k).length cp ∧ OwnI 3 wr HB u (descTo ⟨N, s, r⟩ c x k) ∧ Below HB W1 wr) (fun _ i _ => 4 - (intOf i).toNat)
  case atStart => exact ⟨0, w.heap.size + 1, 1, by omega, rfl, by rw [← H1.out], START.out⟩
  case round =>
    clear START H1
    obtain ⟨k, g, cp, hk, rfl, rfl, q1, q2⟩ := hrel
    obtain ⟨D, hD⟩ : ∃ D, D = descTo ⟨N, s, r⟩ c x k := ⟨_, rfl⟩
    have hDl : D.length ≤ 40 := by
      rw [hD]
      have := descTo_len ⟨N, s, r⟩ c x k
      have h2 : k * (N + 1) ≤ 4 * 9 := Nat.mul_le_mul hk (by omega)
      simp only at this
      omega
    rw [← hD] at q1 ⊢
    obtain ⟨dl, hdl⟩ : ∃ dl, dl = D.length := ⟨_, rfl⟩
    rw [← hdl] at q1 hDl ⊢
    have HQ := Lib.hid (show _ ∧ _ from ⟨q1, q2⟩)
    have HD := Lib.hid (show _ ∧ _ from ⟨hD, hdl⟩)
    clear q1 q2 hD hdl
    have hBw : HB ≤ wr.heap.size := by have := HQ.out.1.ge; omega
    by_cases hk4 : k < 4
    · have A3 : Hid (Below wr.heap.size wr (wr.alloc (.cells #[] 3))) := (Below.refl _ _).alloc (Nat.le_refl _) _
      obtain ⟨B2, hB2⟩ : ∃ B2, B2 = wr.heap.size := ⟨_, rfl⟩
      have ST : Hid (OwnI 3 (wr.alloc (.cells #[] 3)) B2 (.slice (some ⟨B2, 0, none⟩) 0 0) (sortI (way ⟨N, s, r⟩ c x k 0)) ∧ OwnI 3 (wr.alloc (.cells #[] 3)) HB (.slice (some ⟨g, 0, none⟩) dl cp) D ∧ Below HB W1 (wr.alloc (.cells #[] 3))) :=
        ⟨by rw [hB2, way_zero, sortI_nil]; exact emptyRow _ _ _ _ rfl (Nat.le_refl _), HQ.out.1.below A3.out (Nat.le_refl _), HQ.out.2.trans (A3.out.mono hBw)⟩
      have HB2 := Lib.hid hB2
      have tk4 : decide ((k : Int) < 4) = true := by simp; omega
      have hgB : g < B2 := by have := HQ.out.1.ge; omega
      clear hB2
      go_wp2_with fail
      rw [← HB2.out]
      go_loopw [9, 10] (fun u i wr => ∃ (y g2 cp2 : Nat), y ≤ N ∧ i = .int .i64 y ∧ u = .slice (some ⟨g2, 0, none⟩) (way ⟨N, s, r⟩ c x k y).length cp2 ∧ OwnI 3 wr B2 u (sortI (way ⟨N, s, r⟩ c x k y)) ∧ OwnI 3 wr HB (.slice (some ⟨g, 0, none⟩) dl cp) D ∧ Below HB W1 wr) (fun _ i _ => N - (intOf i).toNat)
      case atStart => exact ⟨0, B2, 0, Nat.zero_le _, rfl, by rw [way_zero]; rfl, ST.out⟩
      case round =>
        clear ST A3 HQ
        obtain ⟨y, g2, cp2, hy, rfl, rfl, q1, q2, q3⟩ := hrel
        obtain ⟨L, hL⟩ : ∃ L, L = way ⟨N, s, r⟩ c x k y := ⟨_, rfl⟩
        have hLl : L.length ≤ 8 := by rw [hL]; have := way_len ⟨N, s, r⟩ c x k y; omega
        rw [← hL] at q1 ⊢
        obtain ⟨m, hm⟩ : ∃ m, m = L.length := ⟨_, rfl⟩
        rw [← hm] at q1 hLl ⊢
        have HQ := Lib.hid (show _ ∧ _ ∧ _ from ⟨q1, q2, q3⟩)
        have HL := Lib.hid (show _ ∧ _ from ⟨hL, hm⟩)
        clear q1 q2 q3 hL hm
        have hB2w : B2 ≤ wr.heap.size := by have := HQ.out.1.ge; omega
        have hBw2 : HB ≤ wr.heap.size := by have := HQ.out.2.1.ge; omega
        have BXW := Lib.hid (BX.out.below HQ.out.2.2 hwB)
        obtain ⟨a0, a1, a2⟩ := BXW.out.c
        by_cases hyN : y < N
        · by_cases hyx : y = x
          · have HW : Hid (way ⟨N, s, r⟩ c x k (y + 1) = L) := by rw [Hid, HL.out.1]; exact way_no (.inl hyx)
            have t1 : ((y : Int) != (x : Int)) = false := by simp; omega
            clear hyx
            go_wp2
            go_roundw
            case rel => exact ⟨y + 1, g2, cp2, by omega, by go_num, by rw [HW.out, HL.out.2], by rw [HW.out]; exact HQ.out.1, HQ.out.2⟩
            case measure => simp [intOf]; omega
          · have t1 : ((y : Int) != (x : Int)) = true := by simp; omega
            obtain ⟨kd, hkd⟩ : ∃ kd, kd = kindOf ⟨N, s, r⟩ x y := ⟨_, rfl⟩
            have hkd3 : kd ≤ 3 := by rw [hkd]; exact kindOf_lt _ _ _
            have HKD := Lib.hid hkd
            have HYX := Lib.hid hyx
            clear hkd hyx
            go_wp2_with fail
            refine (l8Kind_any N s r x y _ hx hyN hn HR.out.1).mono ?_
            rintro e w2 ⟨rfl, hb⟩
            rw [← HKD.out]
            have HQ2 := Lib.hid (show _ ∧ _ ∧ _ from ⟨HQ.out.1.below hb (Nat.le_refl _), HQ.out.2.1.below hb (Nat.le_refl _), HQ.out.2.2.trans (hb.mono hBw2)⟩)
            clear hb a0 a1 a2 HQ BXW
            by_cases hkk : kd = k
            · have t2 : ((kd : Int) == (k : Int)) = true := by simp; omega
              obtain ⟨cy, hcy⟩ : ∃ cy, cy = c.getD y 0 := ⟨_, rfl⟩
              have HBW : Hid (Below w.heap.size w w2) := AW.out.trans (HQ2.out.2.2.mono (by omega))
              have ky : w2.cell? ⟨b, off + y, none⟩ = some (.int .i64 cy) := by rw [HBW.out.cell hbw, hcy]; exact HC.out y hyN
              have HW : Hid (way ⟨N, s, r⟩ c x k (y + 1) = L ++ [cy]) := by rw [Hid, HL.out.1, hcy]; exact way_yes HYX.out (by rw [← HKD.out, hkk])
              have CS : Hid (Calls Tryz.prog 169 #[.slice (some ⟨g2, 0, none⟩) m cp2, .int .i64 cy] w2 fun e w' => ∃ g' cap', e = .returned (.slice (some ⟨g', 0, none⟩) (m + 1) cap') ∧ OwnI 3 w' w2.heap.size (.slice (some ⟨g', 0, none⟩) (m + 1) cap') (sortI (L ++ [cy])) ∧ Below w2.heap.size w2 w') := by
                have h := l8Sort_any B2 g2 cp2 L cy w2 (by rw [← HL.out.2]; exact HQ2.out.1) (by have := HQ2.out.1.ge; omega) (by have := HL.out.2; omega)
                rw [← HL.out.2] at h
                exact h
              clear hcy hkk
              go_wp2_with fail
              refine CS.out.mono ?_
              rintro e w3 ⟨g', cap', rfl, ho, hb⟩
              have R1 : Hid (OwnI 3 w3 B2 (.slice (some ⟨g', 0, none⟩) (m + 1) cap') (sortI (way ⟨N, s, r⟩ c x k (y + 1)))) := by rw [HW.out]; exact ho.mono (by have := HQ2.out.1.ge; omega)
              have R2 := Lib.hid (show _ ∧ _ from ⟨HQ2.out.2.1.below hb (Nat.le_refl _), HQ2.out.2.2.trans (hb.mono (by have := HQ2.out.2.1.ge; omega))⟩)
              have HLN : Hid ((way ⟨N, s, r⟩ c x k (y + 1)).length = m + 1) := by rw [Hid, HW.out, List.length_append, ← HL.out.2]; rfl
              clear ho hb ky
              go_wp2
              go_roundw
              case rel => first | exact ⟨y + 1, g', cap', by omega, by go_num, by rw [HLN.out], R1.out, R2.out⟩ | ((repeat apply Exists.intro); exact ⟨⟨y + 1, g', cap', by omega, by go_num, by rw [HLN.out], R1.out, R2.out⟩, rfl⟩)
              case measure => simp [intOf]; omega
            · have t2 : ((kd : Int) == (k : Int)) = false := by simp; omega
              have HW : Hid (way ⟨N, s, r⟩ c x k (y + 1) = L) := by rw [Hid, HL.out.1]; exact way_no (.inr (by rw [← HKD.out]; exact hkk))
              clear hkk
              go_wp2
              go_roundw
              case rel => exact ⟨y + 1, g2, cp2, by omega, by go_num, by rw [HW.out, HL.out.2], by rw [HW.out]; exact HQ2.out.1, HQ2.out.2⟩
              case measure => simp [intOf]; omega
        · obtain rfl : N = y := by omega
          have HDS : Hid (descTo ⟨N, s, r⟩ c x (k + 1) = D ++ [(m : Int)] ++ sortI L) := by
            rw [Hid, descTo_succ, HD.out.1, HL.out.2, HL.out.1]
          have HDL : Hid ((descTo ⟨N, s, r⟩ c x (k + 1)).length = dl + 1 + m) := by
            rw [Hid, HDS.out, List.length_append, List.length_append, sortI_len, ← HL.out.2, ← HD.out.2]; rfl
          have hrow : OwnI 3 wr HB (.slice (some ⟨g, 0, none⟩) dl cp) D := HQ.out.2.1
          unfold OwnI at hrow
          rw [← HD.out.2] at hrow
          have HROW := Lib.hid hrow
          clear hrow
          go_wp2_with (at_builtin; refine wpList_app1 wr rfl (.tmp 44) (.tmp 47) 29 rfl HB 3 (.int .i64 0) 8 Tryz.underlying29 infoInt rfl (by decide) _ _ _ (.int .i64 m) rfl HROW.out wr.heap.size rfl rfl rfl (by omega) hBw2 ?_)
          intro g3 cap3 w4 hown3 hgr
          have HO3 : Hid (OwnI 3 w4 HB (.slice (some ⟨g3, 0, none⟩) (dl + 1) cap3) (D ++ [(m : Int)])) := by
            unfold Hid OwnI; rw [List.length_append, ivs_append, ← HD.out.2]; exact hown3
          have HB4 : Hid (Below HB wr w4) := hgr.below HROW.out hBw2
          have HLR : Hid (Reads w4 (.slice (some ⟨g2, 0, none⟩) m cp2) (sortI L)) := by
            have hge := HQ.out.1.ge
            refine reads_kept (HQ.out.1.reads) hgr.grown (fun q hq => ?_)
            simp [Value.ownBlock] at hq ⊢
            omega
          clear hown3 hgr a0 a1 a2
          go_wp2_with (at_builtin; refine wpList_appAll w4 rfl (.tmp 48) (.tmp 49) 29 rfl HB 3 Tryz.underlying29 infoInt _ (D ++ [(m : Int)]) (sortI L) rfl HO3.out _ rfl HLR.out (by rw [List.length_append, sortI_len, ← HL.out.2, ← HD.out.2]; simp; omega) (Nat.le_trans hBw2 HB4.out.size) ?_)
          intro v5 w5 ho5 hg5 hge5
          have hsh := ho5.shape
          rcases hsh with ⟨_, h0⟩ | ⟨g5, cap5, rfl⟩
          · simp at h0
          have HB5 : Hid (Below HB w4 w5) := below_of_grown hg5 (Nat.le_trans hBw2 HB4.out.size) (fun q hq => (World.ownsRow.lt HO3.out q hq).1)
          have e6 : descTo ⟨N, s, r⟩ c x (k + 1) = D ++ (m : Int) :: sortI L := by rw [HDS.out]; simp
          have e5 : (D ++ (m : Int) :: sortI L).length = dl + 1 + m := by rw [← e6, HDL.out]
          rw [e5] at ho5
          rw [← e6] at ho5
          have R := Lib.hid (show _ ∧ _ from ⟨ho5, (HQ.out.2.2.trans HB4.out).trans HB5.out⟩)
          rw [e5]
          clear ho5 hg5 hge5 e5 e6
          go_wp2
          go_roundw
          case rel => exact ⟨k + 1, g5, cap5, by omega, by go_num, by rw [HDL.out], R.out⟩
          case measure => simp [intOf]; omega
    · obtain rfl : k = 4 := by omega
      have HF : Hid (D = desc ⟨N, s, r⟩ c x) := HD.out.1
      go_wp2
      go_ret
      exact ⟨_, rfl, by rw [← HF.out]; exact HQ.out.1.mono (by omega), AW.out.trans (HQ.out.2.mono (by omega))⟩
end Go.Proofs.YtpcnoiigbmiejaaGreatDoor.descr

/- Four lists of the call's own whose slices lie in one array. -/
namespace Go.Proofs.YtpcnoiigbmiejaaGreatDoor.ways
set_option linter.unusedVariables false
set_option linter.unusedSimpArgs false
open Go.ChangeShapes Go.WideShapes Go.ChangeAt Go.RowKit
open Go.Proofs.YtpcnoiigbmiejaaGreatDoor.lib Go.Proofs.YtpcnoiigbmiejaaGreatDoor.st Go.Proofs.YtpcnoiigbmiejaaGreatDoor.sll

theorem grown_setCell' (w : World) (R o : Nat) (v : Value) : w.grownBy (w.setCell ⟨R, o, none⟩ v) (some R) :=
  ⟨rfl, rfl, rfl, by simp, fun k _ hk => heap_setCell_other w ⟨R, o, none⟩ k v (fun e => hk (by simp [e]))⟩
/-- the array at HW holds the four slices V, which own the lists F -/
structure Ways (w : World) (HW HB : Nat) (V : Nat → Value) (F : Nat → List Int) : Prop where
  hw : HW < HB
  cell : ∀ k, k < 4 → w.cell? ⟨HW, k, none⟩ = some (V k)
  free : ∀ k, w.frozen? ⟨HW, k, none⟩ = false
  own : ∀ k, k < 4 → OwnI 3 w HB (V k) (F k)
  apart : ∀ i j, i < 4 → j < 4 → i ≠ j → Apart (V i) (V j)
  nil : ∀ k, k < 4 → F k = [] → V k = .slice none 0 0
theorem Ways.lt {w : World} {HW HB : Nat} {V : Nat → Value} {F : Nat → List Int} (h : Ways w HW HB V F) : HW < w.heap.size := World.block_lt_of_cell? w _ (h.cell 0 (by omega))
theorem Ways.down {w w' : World} {HW HB : Nat} {V : Nat → Value} {F : Nat → List Int} (h : Ways w HW HB V F) (hb : Below w.heap.size w w') : Ways w' HW HB V F :=
  ⟨h.hw, fun k hk => by rw [hb.cell (p := ⟨HW, k, none⟩) h.lt]; exact h.cell k hk, fun k => by
    rw [World.frozen?_of_block (w := w) (hb.block HW h.lt)]; exact h.free k, fun k hk => (h.own k hk).below hb (Nat.le_refl _), h.apart, h.nil⟩
theorem Ways.congr {w : World} {HW HB : Nat} {V : Nat → Value} {F G : Nat → List Int} (h : Ways w HW HB V F) (hF : ∀ k, k < 4 → F k = G k) : Ways w HW HB V G :=
  ⟨h.hw, h.cell, h.free, fun k hk => by rw [← hF k hk]; exact h.own k hk, h.apart, fun k hk e => h.nil k hk ((hF k hk).trans e)⟩
/-- one of them has grown -/
theorem Ways.put {w w9 : World} {HW HB K : Nat} {V : Nat → Value} {F : Nat → List Int} {u : Value} {l : List Int} (h : Ways w HW HB V F) (hK : K < 4) (hB : HB ≤ w.heap.size) (hg : Grew w w9 (V K) u) (hu : OwnI 3 w9 HB u l) (hl : l ≠ []) :
    Ways (w9.setCell ⟨HW, K, none⟩ u) HW HB (fun k => if k = K then u else V k) (fun k => if k = K then l else F k) := by
  have hne : ∀ k, k < 4 → some HW ≠ (V k).ownBlock := fun k hk e => by have := (h.own k hk).lt HW e.symm; have := h.hw; omega
  have hneu : some HW ≠ u.ownBlock := fun e => by have := hu.lt HW e.symm; have := h.hw; omega
  have hblk : w9.heap[HW]? = w.heap[HW]? := hg.grown.block HW h.lt (hne K hK)
  have hs : ∀ (v : Value) (m : List Int), some HW ≠ v.ownBlock → OwnI 3 w9 HB v m → OwnI 3 (w9.setCell ⟨HW, K, none⟩ u) HB v m := fun v m hv ho =>
    World.ownsRow.kept ho (grown_setCell' w9 HW K u) (.inr fun e => hv e.symm)
  refine ⟨h.hw, fun k hk => ?_, fun k => ?_, fun k hk => ?_, fun i j hi hj hij => ?_, fun k hk e => ?_⟩
  · by_cases e : k = K
    · subst e
      rw [if_pos rfl]
      have hc := h.cell k hk
      rw [← World.cell?_of_block (w := w) (w' := w9) (a := ⟨HW, k, none⟩) hblk] at hc
      exact World.cell?_setCell_same _ _ _ hc
    · rw [if_neg e, World.cell?_setCell_other w9 ⟨HW, K, none⟩ ⟨HW, k, none⟩ u (fun e2 => e (by injection e2 with _ e3 _; exact e3.symm)), World.cell?_of_block (w := w) (w' := w9) (a := ⟨HW, k, none⟩) hblk]
      exact h.cell k hk
  · rw [World.frozen?_setCell, World.frozen?_of_block (w := w) (w' := w9) (a := ⟨HW, k, none⟩) hblk]; exact h.free k
  · by_cases e : k = K
    · subst e; rw [if_pos rfl, if_pos rfl]; exact hs _ _ hneu hu
    · rw [if_neg e, if_neg e]
      exact hs _ _ (hne k hk) (hg.keep (h.own k hk) (h.apart K k hK hk (fun e2 => e e2.symm))).1
  · have hx : ∀ j, j < 4 → j ≠ K → Apart u (V j) := fun j hj hjK b hb => by
      rcases hg.blk b hb with hb | hb
      · exact h.apart K j hK hj (fun e => hjK e.symm) b hb
      · intro e; have := ((h.own j hj).lt b e).2; omega
    by_cases e1 : i = K
    · subst e1
      rw [if_pos rfl, if_neg (fun e => hij e.symm)]
      exact hx j hj (fun e => hij e.symm)
    · rw [if_neg e1]
      by_cases e2 : j = K
      · subst e2; rw [if_pos rfl]; exact (hx i hi e1).symm
      · rw [if_neg e2]; exact h.apart i j hi hj hij
  · by_cases e2 : k = K
    · rw [if_pos e2] at e; exact absurd e hl
    · rw [if_neg e2] at e ⊢; exact h.nil k hk e
theorem Ways.start (w : World) (HW HB : Nat) (E : TypeId) (h1 : w.heap.size = HW) (h2 : HW < HB) : Ways (w.alloc (.cells #[.slice none 0 0, .slice none 0 0, .slice none 0 0, .slice none 0 0] E)) HW HB (fun _ => .slice none 0 0) (fun _ => []) := by
  subst h1
  refine ⟨h2, fun k hk => ?_, fun k => ?_, fun k _ => OwnI.nil _ _ _, fun _ _ _ _ _ b hb => by simp [Value.ownBlock] at hb, fun _ _ _ => rfl⟩
  · rw [cell_of_row _ _ k _ E (0, 0) (heap_alloc_new w _)]
    have : k = 0 ∨ k = 1 ∨ k = 2 ∨ k = 3 := by omega
    rcases this with rfl | rfl | rfl | rfl <;> rfl
  · exact frozen_of_row _ _ k _ E (heap_alloc_new w _)

/-- append of a list of the call's own -/
theorem wpList_appO {P : Program} (w : World) {ops : Array Oper} {rest : List Oper} {o : Oper} {a : Act} {Q : Exit → Act → World → Prop} (hgd : o.guard = none)
    (s x : Operand) (t : TypeId) (hop : o.op = Op.call { callee := Callee.builtin Builtin.append, args := #[s, x], argTypes := #[t, t] })
    (base B2 : Nat) (e : TypeId) (h1 : P.underlying t = some (.slice e)) (hinfo : (P.info? e).map (fun i => (i.zero, i.size, i.bytes)) = some (some (.int .i64 0), 1, 8))
    (v : Value) (l : List Int) (hs : a.eval s = v) (hown : OwnI e w base v l) (v2 : Value) (m : List Int) (hx : a.eval x = v2) (hown2 : OwnI e w B2 v2 m) (hnil : m = [] → v2 = .slice none 0 0)
    (b1 : l.length + m.length ≤ 4398046511104) (b4 : base ≤ w.heap.size)
    (h : ∀ v' w', OwnI e w' base v' (l ++ m) → Grew w w' v v' → wpList P ops Q rest (a.put o.dst v') w') : wpList P ops Q (o :: rest) a w := by
  by_cases hm : m = []
  · obtain ⟨i, hi, -, -, -⟩ := info_parts hinfo
    refine wpList_append_own_none hgd s x t hop base e i 1 h1 hi v l.length (ivs l) hs hown (by rw [hx, hnil hm]) ?_
    exact h v w (by rw [hm, List.append_nil]; exact hown) ⟨World.grownBy.refl _ _, fun g hg => .inl hg⟩
  · rcases hown2.shape with ⟨-, h0⟩ | ⟨g, cap, rfl⟩
    · exact absurd h0 hm
    · refine wpList_plain hgd fun K hK => ?_
      refine wp_appL w s x t hop base e (.int .i64 0) 8 h1 hinfo rfl (by decide) v l.length (ivs l) hs hown ⟨g, 0, none⟩ m.length cap (ivs m) hx (by simp [ivs]) ?_ ?_ (List.length_pos_iff.2 hm) b1 b4 (fun g' cap' w' ho hg => hK _ _ (h _ w' ?_ hg))
      · intro j u hj
        exact World.ownsRow.cells hown2 (g := g) rfl j u hj
      · intro u hu
        simp only [ivs, List.mem_map] at hu
        obtain ⟨z, -, rfl⟩ := hu; rfl
      · unfold OwnI; rw [List.length_append, ivs_append]; exact ho
end Go.Proofs.YtpcnoiigbmiejaaGreatDoor.ways
