/- What the law of equal colours asks, in plain words. -/
import Derived.Test.YtefneihlgclkbaaGreatDoorPkE
import Derived.Test.YtefneihlgclkbaaGreatDoorColQ
import Derived.Test.YtefneihlgclkbaaGreatDoorShape
namespace Go.Proofs.YtefneihlgclkbaaGreatDoor.colr
set_option linter.unusedVariables false
set_option linter.unusedSimpArgs false
open Go.Proofs.YtefneihlgclkbaaGreatDoor.base Go.Proofs.YtefneihlgclkbaaGreatDoor.col Go.Proofs.YtefneihlgclkbaaGreatDoor.colp Go.Proofs.YtefneihlgclkbaaGreatDoor.both Go.Proofs.YtefneihlgclkbaaGreatDoor.specd Go.Proofs.YtefneihlgclkbaaGreatDoor.colj Go.Proofs.YtefneihlgclkbaaGreatDoor.colq Go.Proofs.YtefneihlgclkbaaGreatDoor.shape

theorem cols_end {As : List St} (h : 0 < total As) {k : Nat} (hk : total As ≤ k) : cols As k = cols As (total As) := by
  have hx : ∃ j, j < total As ∧ most (cols As j) = most (cols As (j + 1)) := by
    refine Classical.byContradiction fun hn => ?_
    have a := most_grow h (total As) fun j hj e => hn ⟨j, hj, e⟩
    have b := cols_most_le As (total As)
    omega
  obtain ⟨j, hj, e⟩ := hx
  have st := cols_stay (cols_stop h e)
  have e1 := st (k - j)
  have e2 := st (total As - j)
  rw [show j + (k - j) = k by omega] at e1
  rw [show j + (total As - j) = total As by omega] at e2
  rw [e1, e2]
theorem same_round_iff (a b : St) (h : 0 < total [a, b]) (k : Nat) : sameAt a b k = true ↔ roundTo a b (a.n + b.n + 1) = -1 ∨ (k : Int) < roundTo a b (a.n + b.n + 1) := by
  have ht : total [a, b] = a.n + b.n := by simp [total]
  rcases roundTo_cases a b (a.n + b.n + 1) with ⟨h1, h2⟩ | ⟨j, hj, h1, h2, h3⟩
  · refine ⟨fun _ => .inl h1, fun _ => ?_⟩
    by_cases hk : k < a.n + b.n + 1
    · exact h2 k hk
    · have e := cols_end h (k := k) (by omega)
      have e2 := h2 (a.n + b.n) (by omega)
      rw [← ht] at e2
      unfold sameAt at e2 ⊢
      rw [e]; exact e2
  · rw [h1]
    constructor
    · intro hs
      refine .inr ?_
      by_cases hk : k < j
      · omega
      · rw [sameAt_down (j := j) (by omega) hs] at h2; cases h2
    · rintro (e | e)
      · omega
      · exact h3 k (by omega)
theorem perm_counts {p q : List Int} (hp : ∀ x, x ∈ p → 0 ≤ x ∧ x < 16) (hq : ∀ x, x ∈ q → 0 ≤ x ∧ x < 16) (hc : ∀ c : Nat, c < 16 → p.count (c : Int) = q.count (c : Int)) : p.Perm q := by
  refine List.perm_iff_count.2 fun x => ?_
  by_cases hx : 0 ≤ x ∧ x < 16
  · have := hc x.toNat (by omega)
    rw [show ((x.toNat : Nat) : Int) = x by omega] at this
    exact this
  · rw [List.count_eq_zero.2 fun h => hx (hp x h), List.count_eq_zero.2 fun h => hx (hq x h)]
/-- how often a number is there among the first ones -/
def cnt (l : List Int) (c x : Nat) : Nat := (l.take x).count (c : Int)
theorem cnt_zero (l : List Int) (c : Nat) : cnt l c 0 = 0 := by simp [cnt]
theorem cnt_full (l : List Int) (c : Nat) : cnt l c l.length = l.count (c : Int) := by simp [cnt]
theorem cnt_yes {l : List Int} {c x : Nat} (hx : x < l.length) (h : l.getD x 0 = (c : Int)) : cnt l c (x + 1) = cnt l c x + 1 := by
  unfold cnt
  rw [List.take_succ_eq_append_getElem hx, List.count_append]
  rw [List.getD_eq_getElem?_getD, List.getElem?_eq_getElem hx] at h
  have h : l[x] = (c : Int) := h
  rw [h]; simp
theorem cnt_no {l : List Int} {c x : Nat} (hx : x < l.length) (h : l.getD x 0 ≠ (c : Int)) : cnt l c (x + 1) = cnt l c x := by
  unfold cnt
  rw [List.take_succ_eq_append_getElem hx, List.count_append]
  rw [List.getD_eq_getElem?_getD, List.getElem?_eq_getElem hx] at h
  have h : l[x] ≠ (c : Int) := h
  have z : [l[x]].count (c : Int) = 0 := List.count_eq_zero.2 (by simpa using fun e => h e.symm)
  rw [z]; omega
theorem cnt_le (l : List Int) (c x : Nat) : cnt l c x ≤ l.length := by
  unfold cnt
  exact Nat.le_trans List.count_le_length (List.length_take_le' _ _)
/-- the law at valid structures -/
structure Fact (N M : Nat) (s r t q : ByteArray) (is : Bool) (rn : Int) : Prop where
  n : 1 ≤ N ∧ N ≤ 8
  m : 1 ≤ M ∧ M ≤ 8
  pl : ∀ k : Nat, (k : Int) ≤ 8 → (bothA N s r M t q k).length = N ∧ (bothB N s r M t q k).length = M
  bd : ∀ k : Nat, (k : Int) ≤ 8 → (∀ x, x ∈ bothA N s r M t q k → 0 ≤ x ∧ x < 16) ∧ ∀ x, x ∈ bothB N s r M t q k → 0 ≤ x ∧ x < 16
  rk : ∀ k : Nat, (k : Int) ≤ 8 → ((bothA N s r M t q k).Perm (bothB N s r M t q k) ↔ rn = -1 ∨ (k : Int) < rn)
  is1 : is = decide (rn = -1)
  rn1 : -1 ≤ rn
  sh : shpR N s r M t q = true → is = true
  sw : sameR M t q N s r = is
  se : sameR N s r N s r = true
theorem fact {n : Int} {s r : ByteArray} {m : Int} {t q : ByteArray} (hv : validB n s r = true) (hv2 : validB m t q = true) : ∃ N M : Nat, n = N ∧ m = M ∧ Fact N M s r t q (sameR n s r m t q) (roundR n s r m t q) := by
  obtain ⟨N, rfl, h1, h8, -, -⟩ := valid_size hv
  obtain ⟨M, rfl, g1, g8, -, -⟩ := valid_size hv2
  have ht : total [(⟨N, s, r⟩ : St), ⟨M, t, q⟩] = N + M := by simp [total]
  have e : ∀ k : Nat, (k : Int) ≤ 8 → bothA N s r M t q k = colA ⟨N, s, r⟩ ⟨M, t, q⟩ k ∧ bothB N s r M t q k = colB ⟨N, s, r⟩ ⟨M, t, q⟩ k := fun k hk => both_yes hv hv2 (by omega)
  have sy : ∀ {n' m' : Nat} {s' r' t' q' : ByteArray}, validB n' s' r' = true → validB m' t' q' = true → sameR n' s' r' m' t' q' = sameAt ⟨n', s', r'⟩ ⟨m', t', q'⟩ (n' + m') := fun h h' => by unfold sameR; rw [h, h']; rfl
  refine ⟨N, M, rfl, rfl, ⟨h1, h8⟩, ⟨g1, g8⟩, fun k hk => ?_, fun k hk => ?_, fun k hk => ?_, (same_round _ _ _ _ _ _).symm, ?_, fun hs => ?_, ?_, ?_⟩
  · rw [(e k hk).1, (e k hk).2]; exact ⟨colA_length _ _ _, colB_length _ _ _⟩
  · rw [(e k hk).1, (e k hk).2]
    exact ⟨fun x hx => by have := colA_bd (by omega) hx; omega, fun x hx => by have := colB_bd (by omega) hx; omega⟩
  · rw [(e k hk).1, (e k hk).2, round_yes hv hv2]
    have := same_round_iff ⟨N, s, r⟩ ⟨M, t, q⟩ (by omega) k
    rw [← this]
    exact (decide_eq_true_iff (p := (colA ⟨N, s, r⟩ ⟨M, t, q⟩ k).Perm (colB ⟨N, s, r⟩ ⟨M, t, q⟩ k))).symm
  · rw [round_yes hv hv2]
    rcases roundTo_cases ⟨N, s, r⟩ ⟨M, t, q⟩ (N + M + 1) with ⟨h, _⟩ | ⟨j, _, h, _⟩
    · rw [h]; omega
    · rw [h]; omega
  · obtain ⟨_, _, e3, o, ho⟩ := shpR_iff.1 hs
    obtain rfl : N = M := by omega
    rw [sy hv hv2]
    exact iso_same ho _
  · rw [sy hv hv2, sy hv2 hv, same_swap, Nat.add_comm]
  · rw [sy hv hv]; exact same_self _ _
theorem invalid {n : Int} {s r : ByteArray} {m : Int} {t q : ByteArray} (h : ¬ (validB n s r = true ∧ validB m t q = true)) : sameR n s r m t q = false ∧ roundR n s r m t q = -2 := by
  refine ⟨?_, round_no h⟩
  rw [← same_round, round_no h]; rfl
end Go.Proofs.YtefneihlgclkbaaGreatDoor.colr
