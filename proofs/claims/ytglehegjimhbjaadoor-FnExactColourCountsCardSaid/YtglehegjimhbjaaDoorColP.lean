/- Numbers by order: the place of each list among all different ones. Plain words, no program in sight. -/
import Derived.Test.YtglehegjimhbjaaDoorLib
namespace Go.Proofs.YtglehegjimhbjaaDoor.colp
set_option linter.unusedVariables false
set_option linter.unusedSimpArgs false

/-- alphabetical order of lists of numbers -/
def lessL : List Int → List Int → Bool
  | [], [] => false
  | [], _ :: _ => true
  | _ :: _, [] => false
  | a :: l, b :: m => if a = b then lessL l m else decide (a < b)
theorem less_irr : ∀ l, lessL l l = false
  | [] => rfl
  | a :: l => by rw [lessL, if_pos rfl]; exact less_irr l
theorem less_trans : ∀ {l m k : List Int}, lessL l m = true → lessL m k = true → lessL l k = true
  | [], [], _, h, _ => by simp [lessL] at h
  | [], _ :: _, [], _, h => by simp [lessL] at h
  | [], _ :: _, _ :: _, _, _ => rfl
  | _ :: _, [], _, h, _ => by simp [lessL] at h
  | _ :: _, _ :: _, [], _, h => by simp [lessL] at h
  | a :: l, b :: m, c :: k, h1, h2 => by
    rw [lessL] at h1 h2 ⊢
    by_cases e1 : a = b
    · subst e1
      rw [if_pos rfl] at h1
      by_cases e2 : a = c
      · rw [if_pos e2] at h2 ⊢; exact less_trans h1 h2
      · rw [if_neg e2] at h2 ⊢; exact h2
    · rw [if_neg e1] at h1
      have h1 := of_decide_eq_true h1
      by_cases e2 : b = c
      · subst e2; rw [if_neg e1]; exact decide_eq_true h1
      · rw [if_neg e2] at h2
        have h2 := of_decide_eq_true h2
        rw [if_neg (by omega)]; exact decide_eq_true (by omega)
theorem less_tri : ∀ {l m : List Int}, lessL l m = false → lessL m l = false → l = m
  | [], [], _, _ => rfl
  | [], _ :: _, h, _ => by simp [lessL] at h
  | _ :: _, [], _, h => by simp [lessL] at h
  | a :: l, b :: m, h1, h2 => by
    rw [lessL] at h1 h2
    by_cases e : a = b
    · subst e
      rw [if_pos rfl] at h1 h2
      rw [less_tri h1 h2]
    · rw [if_neg e] at h1
      rw [if_neg (fun h => e h.symm)] at h2
      have := of_decide_eq_false h1
      have := of_decide_eq_false h2
      omega
theorem less_asymm {l m : List Int} (h : lessL l m = true) : lessL m l = false := by
  cases h2 : lessL m l with
  | false => rfl
  | true => have := less_trans h h2; rw [less_irr] at this; cases this

/-! counting of what is different -/
theorem len_le_of_subset {α : Type} [DecidableEq α] : ∀ {A B : List α}, A.Nodup → (∀ x, x ∈ A → x ∈ B) → A.length ≤ B.length
  | [], _, _, _ => by simp
  | a :: A, B, hn, hs => by
    obtain ⟨h1, h2⟩ := List.nodup_cons.1 hn
    have ha : a ∈ B := hs a List.mem_cons_self
    have : A.length ≤ (B.erase a).length := len_le_of_subset h2 fun x hx => (List.mem_erase_of_ne (fun e : x = a => h1 (by rw [← e]; exact hx))).2 (hs x (List.mem_cons_of_mem _ hx))
    have hl := List.length_erase_of_mem ha
    have := List.length_pos_of_mem ha
    simp only [List.length_cons]; omega
theorem len_lt_of_subset {α : Type} [DecidableEq α] {A B : List α} (hn : A.Nodup) (hs : ∀ x, x ∈ A → x ∈ B) {b : α} (hb : b ∈ B) (hb' : b ∉ A) : A.length < B.length := by
  have := len_le_of_subset (A := b :: A) (B := B) (List.nodup_cons.2 ⟨hb', hn⟩) fun x hx => by
    rcases List.mem_cons.1 hx with rfl | h
    · exact hb
    · exact hs x h
  simp only [List.length_cons] at this; omega
theorem len_eq_of_same {α : Type} [DecidableEq α] {A B : List α} (ha : A.Nodup) (hb : B.Nodup) (h : ∀ x, x ∈ A ↔ x ∈ B) : A.length = B.length :=
  Nat.le_antisymm (len_le_of_subset ha fun x => (h x).1) (len_le_of_subset hb fun x => (h x).2)

/-- one more of those before d, if it is not yet there -/
def seeOne (d : List Int) (s : List (List Int)) (x : List Int) : List (List Int) := if lessL x d && s.all (fun y => !decide (y = x)) then s ++ [x] else s
/-- those before d, each once -/
def seenL (d : List Int) (L : List (List Int)) : List (List Int) := L.foldl (seeOne d) []
theorem seen_snoc (d : List Int) (L : List (List Int)) (x : List Int) : seenL d (L ++ [x]) = seeOne d (seenL d L) x := by simp [seenL]
theorem seen_fold {d : List Int} : ∀ (L s : List (List Int)), s.Nodup → (∀ x, x ∈ s → lessL x d = true) → (L.foldl (seeOne d) s).Nodup ∧ ∀ x, x ∈ L.foldl (seeOne d) s ↔ x ∈ s ∨ (x ∈ L ∧ lessL x d = true)
  | [], s, hn, _ => ⟨hn, fun x => by simp⟩
  | a :: L, s, hn, hs => by
    rw [List.foldl_cons]
    by_cases h : (lessL a d && s.all (fun y => !decide (y = a))) = true
    · have e : seeOne d s a = s ++ [a] := by rw [seeOne, if_pos h]
      rw [Bool.and_eq_true] at h
      have ha : a ∉ s := fun hm => by have := List.all_eq_true.1 h.2 a hm; simp at this
      rw [e]
      obtain ⟨h1, h2⟩ := seen_fold (d := d) L (s ++ [a]) (by rw [List.nodup_append]; refine ⟨hn, by simp, fun x hx y hy => ?_⟩; simp at hy; subst hy; exact fun e => ha (e ▸ hx)) (fun x hx => by
        rcases List.mem_append.1 hx with hx | hx
        · exact hs x hx
        · simp at hx; subst hx; exact h.1)
      refine ⟨h1, fun x => ?_⟩
      rw [h2]
      constructor
      · rintro (hx | hx)
        · rcases List.mem_append.1 hx with hx | hx
          · exact .inl hx
          · simp at hx; subst hx; exact .inr ⟨List.mem_cons_self, h.1⟩
        · exact .inr ⟨List.mem_cons_of_mem _ hx.1, hx.2⟩
      · rintro (hx | ⟨hx, hl⟩)
        · exact .inl (List.mem_append_left _ hx)
        · rcases List.mem_cons.1 hx with rfl | hx
          · exact .inl (List.mem_append_right _ (by simp))
          · exact .inr ⟨hx, hl⟩
    · have e : seeOne d s a = s := by rw [seeOne, if_neg h]
      rw [e]
      obtain ⟨h1, h2⟩ := seen_fold (d := d) L s hn hs
      refine ⟨h1, fun x => ?_⟩
      rw [h2]
      constructor
      · rintro (hx | hx)
        · exact .inl hx
        · exact .inr ⟨List.mem_cons_of_mem _ hx.1, hx.2⟩
      · rintro (hx | ⟨hx, hl⟩)
        · exact .inl hx
        · rcases List.mem_cons.1 hx with rfl | hx
          · left
            have hall : ¬ s.all (fun y => !decide (y = x)) = true := fun hh => h (by rw [Bool.and_eq_true]; exact ⟨hl, hh⟩)
            rw [List.all_eq_true] at hall
            simp only [Bool.not_eq_true', decide_eq_false_iff_not] at hall
            by_cases hm : x ∈ s
            · exact hm
            · exact absurd (fun y hy (e : y = x) => hm (by rw [← e]; exact hy)) hall
          · exact .inr ⟨hx, hl⟩
theorem seen_nodup (d : List Int) (L : List (List Int)) : (seenL d L).Nodup := (seen_fold L [] (by simp) (by simp)).1
theorem mem_seen {d : List Int} {L : List (List Int)} {x : List Int} : x ∈ seenL d L ↔ x ∈ L ∧ lessL x d = true := by
  have := (seen_fold (d := d) L [] (by simp) (by simp)).2 x
  simpa [seenL] using this
/-- the place of d among the different ones of L -/
def num (L : List (List Int)) (d : List Int) : Nat := (seenL d L).length
theorem num_congr {L M : List (List Int)} (h : ∀ x, x ∈ L ↔ x ∈ M) (d : List Int) : num L d = num M d :=
  len_eq_of_same (seen_nodup _ _) (seen_nodup _ _) fun x => by rw [mem_seen, mem_seen, h]
theorem num_lt {L : List (List Int)} {d e : List Int} (hd : d ∈ L) (h : lessL d e = true) : num L d < num L e :=
  len_lt_of_subset (seen_nodup _ _) (fun x hx => mem_seen.2 ⟨(mem_seen.1 hx).1, less_trans (mem_seen.1 hx).2 h⟩) (b := d) (mem_seen.2 ⟨hd, h⟩) fun hm => by have := (mem_seen.1 hm).2; rw [less_irr] at this; cases this
theorem num_lt_iff {L : List (List Int)} {d e : List Int} (hd : d ∈ L) (he : e ∈ L) : num L d < num L e ↔ lessL d e = true := by
  refine ⟨fun h => ?_, num_lt hd⟩
  cases hl : lessL d e with
  | true => rfl
  | false =>
    cases hr : lessL e d with
    | true => have := num_lt he hr; omega
    | false => rw [less_tri hl hr] at h; omega
theorem num_inj {L : List (List Int)} {d e : List Int} (hd : d ∈ L) (he : e ∈ L) (h : num L d = num L e) : d = e := by
  cases hl : lessL d e with
  | true => have := num_lt hd hl; omega
  | false =>
    cases hr : lessL e d with
    | true => have := num_lt he hr; omega
    | false => exact less_tri hl hr
theorem num_len {L : List (List Int)} {d : List Int} (hd : d ∈ L) : num L d < L.length :=
  len_lt_of_subset (seen_nodup _ _) (fun _ hx => (mem_seen.1 hx).1) hd fun hm => by have := (mem_seen.1 hm).2; rw [less_irr] at this; cases this
/-- the place in a list that ascends -/
theorem num_at {L S : List (List Int)} (hS : S.Pairwise fun a b => lessL a b = true) (h : ∀ x, x ∈ S ↔ x ∈ L) {i : Nat} (hi : i < S.length) : num L S[i] = i := by
  have hnod : S.Nodup := hS.imp fun {a b} hab e => by subst e; rw [less_irr] at hab; cases hab
  have e : (S.take i).length = i := by simp; omega
  have hp := List.pairwise_iff_getElem.1 hS
  refine Eq.trans ?_ e
  refine len_eq_of_same (seen_nodup _ _) (hnod.sublist (List.take_sublist _ _)) fun x => ?_
  rw [mem_seen, ← h]
  constructor
  · rintro ⟨hx, hl⟩
    obtain ⟨j, hj, rfl⟩ := List.getElem_of_mem hx
    by_cases hji : j < i
    · exact List.mem_iff_getElem.2 ⟨j, by simp; omega, by simp⟩
    · by_cases e : j = i
      · subst e; rw [less_irr] at hl; cases hl
      · have := less_asymm (hp i j hi hj (by omega)); rw [this] at hl; cases hl
  · intro hx
    obtain ⟨j, hj, rfl⟩ := List.getElem_of_mem hx
    simp at hj
    rw [List.getElem_take]
    exact ⟨List.getElem_mem _, hp j i (by omega) hi (by omega)⟩
end Go.Proofs.YtglehegjimhbjaaDoor.colp
