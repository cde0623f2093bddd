/- Several texts in one: Less, Num, Refine, Both, SpecC, SpecD, SpecE. -/
import Derived.Test.YtefneihlgclkbaaDoorPkA
import Derived.RegionTactic
import Derived.ChangeAlike
import Derived.Test.YtefneihlgclkbaaDoorChain
import Derived.Test.YtefneihlgclkbaaDoorBasic
/- The reference's order of lists: l8Less, l8Equal. -/
namespace Go.Proofs.YtefneihlgclkbaaDoor.less
set_option linter.unusedVariables false
set_option linter.unusedSimpArgs false
open Go.ChangeShapes Go.WideShapes Go.ChangeAt Go.RowKit
open Go.Proofs.YtefneihlgclkbaaDoor.lib Go.Proofs.YtefneihlgclkbaaDoor.sll Go.Proofs.YtefneihlgclkbaaDoor.colp

theorem less_drop : ∀ (k : Nat) (l m : List Int), l.take k = m.take k → k ≤ l.length → k ≤ m.length → lessL l m = lessL (l.drop k) (m.drop k)
  | 0, l, m, _, _, _ => by simp
  | k + 1, [], m, _, h, _ => by simp at h
  | k + 1, a :: l, [], _, _, h => by simp at h
  | k + 1, a :: l, b :: m, h, h1, h2 => by
    simp only [List.take_succ_cons, List.cons.injEq] at h
    rw [lessL, if_pos h.1, List.drop_succ_cons, List.drop_succ_cons]
    exact less_drop k l m h.2 (by simpa using h1) (by simpa using h2)
theorem less_at {l m : List Int} {k : Nat} (h : l.take k = m.take k) (h1 : k < l.length) (h2 : k < m.length) (hne : l.getD k 0 ≠ m.getD k 0) : lessL l m = decide (l.getD k 0 < m.getD k 0) := by
  rw [less_drop k l m h (by omega) (by omega), List.drop_eq_getElem_cons h1, List.drop_eq_getElem_cons h2]
  simp only [List.getD_eq_getElem?_getD, List.getElem?_eq_getElem h1, List.getElem?_eq_getElem h2, Option.getD_some] at hne ⊢
  rw [lessL, if_neg hne]
theorem less_end {l m : List Int} {k : Nat} (h : l.take k = m.take k) (h1 : k ≤ l.length) (h2 : k ≤ m.length) (hk : l.length = k ∨ m.length = k) : lessL l m = decide (l.length < m.length) := by
  rw [less_drop k l m h h1 h2]
  rcases hk with hk | hk
  · rw [List.drop_eq_nil_of_le (by omega)]
    cases hd : m.drop k with
    | nil =>
      have : (m.drop k).length = 0 := by rw [hd]; rfl
      rw [List.length_drop] at this
      rw [lessL, decide_eq_false (by omega)]
    | cons a t =>
      have : (m.drop k).length = t.length + 1 := by rw [hd]; rfl
      rw [List.length_drop] at this
      rw [lessL, decide_eq_true (by omega)]
  · rw [List.drop_eq_nil_of_le (show m.length ≤ k by omega)]
    rw [decide_eq_false (by omega)]
    cases l.drop k <;> rfl

end Go.Proofs.YtefneihlgclkbaaDoor.less

/- The reference's numbers by order: l8Numbers. -/
namespace Go.Proofs.YtefneihlgclkbaaDoor.numb
set_option linter.unusedVariables false
set_option linter.unusedSimpArgs false
open Go.ChangeShapes Go.WideShapes Go.ChangeAt Go.RowKit
open Go.Proofs.YtefneihlgclkbaaDoor.lib Go.Proofs.YtefneihlgclkbaaDoor.sll Go.Proofs.YtefneihlgclkbaaDoor.colp Go.Proofs.YtefneihlgclkbaaDoor.less Go.Proofs.YtefneihlgclkbaaDoor.flow

def numsTo (L : List (List Int)) (k : Nat) : List Int := ((L.take k).map fun d => ((num L d : Nat) : Int)) ++ List.replicate (L.length - k) 0
theorem numsTo_zero (L : List (List Int)) : numsTo L 0 = List.replicate L.length 0 := by simp [numsTo]
theorem numsTo_len (L : List (List Int)) {k : Nat} (hk : k ≤ L.length) : (numsTo L k).length = L.length := by simp [numsTo]; omega
theorem numsTo_set {L : List (List Int)} {k : Nat} (hk : k < L.length) : (numsTo L k).set k ((num L (L.getD k []) : Nat) : Int) = numsTo L (k + 1) := by
  have hl : ((L.take k).map fun d => ((num L d : Nat) : Int)).length = k := by simp; omega
  unfold numsTo
  rw [List.set_append_right (h := by omega), hl, Nat.sub_self, show L.length - k = (L.length - (k + 1)) + 1 by omega, List.replicate_succ, List.set_cons_zero, List.take_succ_eq_append_getElem hk, List.map_append, List.append_assoc]
  simp [List.getD_eq_getElem?_getD, List.getElem?_eq_getElem hk]
theorem numsTo_full (L : List (List Int)) : numsTo L L.length = L.map fun d => ((num L d : Nat) : Int) := by simp [numsTo]
/-- d's list of those before it, of the first k -/
def seenTo (L : List (List Int)) (d : List Int) (k : Nat) : List (List Int) := seenL d (L.take k)
theorem seenTo_zero (L : List (List Int)) (d : List Int) : seenTo L d 0 = [] := by simp [seenTo, seenL]
theorem seenTo_succ {L : List (List Int)} {d : List Int} {k : Nat} (hk : k < L.length) : seenTo L d (k + 1) = seeOne d (seenTo L d k) (L.getD k []) := by
  unfold seenTo
  rw [List.take_succ_eq_append_getElem hk, seen_snoc, List.getD_eq_getElem?_getD, List.getElem?_eq_getElem hk]; rfl
theorem seenTo_full (L : List (List Int)) (d : List Int) : (seenTo L d L.length).length = num L d := by rw [seenTo, List.take_length]; rfl
theorem seenTo_len (L : List (List Int)) (d : List Int) (k : Nat) : (seenTo L d k).length ≤ k := by
  have := len_le_of_subset (seen_nodup d (L.take k)) (B := L.take k) (fun x hx => (mem_seen.1 hx).1)
  unfold seenTo
  rw [List.length_take] at this
  omega
theorem seenTo_mem {L : List (List Int)} {d x : List Int} {k : Nat} (h : x ∈ seenTo L d k) : x ∈ L := List.mem_of_mem_take (mem_seen.1 h).1
/-- whether x is new, against the first j of s -/
def fresh (d x : List Int) (s : List (List Int)) (j : Nat) : Bool := lessL x d && (s.take j).all (fun y => !decide (y = x))
theorem fresh_zero (d x : List Int) (s : List (List Int)) : fresh d x s 0 = lessL x d := by simp [fresh]
theorem fresh_succ {d x : List Int} {s : List (List Int)} {j : Nat} (hj : j < s.length) : fresh d x s (j + 1) = (fresh d x s j && !decide (s.getD j [] = x)) := by
  unfold fresh
  rw [List.take_succ_eq_append_getElem hj, List.all_append, List.getD_eq_getElem?_getD, List.getElem?_eq_getElem hj, Bool.and_assoc]
  simp
theorem fresh_full (d x : List Int) (s : List (List Int)) : seeOne d s x = if fresh d x s s.length then s ++ [x] else s := by
  unfold fresh seeOne
  rw [List.take_length]

/-- the lists are short and not empty -/
def Short (L : List (List Int)) : Prop := L.length ≤ 100 ∧ ∀ l, l ∈ L → l ≠ [] ∧ l.length ≤ 1000
theorem Short.get {L : List (List Int)} (h : Short L) {i : Nat} (hi : i < L.length) : L.getD i [] ≠ [] ∧ (L.getD i []).length ≤ 1000 := by
  rw [List.getD_eq_getElem?_getD, List.getElem?_eq_getElem hi]; exact h.2 _ (List.getElem_mem hi)
theorem reads_own {w : World} {u : Value} {l : List Int} (h : Reads w u l) (hl : l ≠ []) : ∃ b, u.ownBlock = some b ∧ b < w.heap.size := by
  obtain ⟨ao, cap, hv, h', _⟩ := h
  rcases h' with h' | ⟨b, off, ha, hc⟩
  · exact absurd h' hl
  · have h0 : 0 < l.length := by cases l with
      | nil => exact absurd rfl hl
      | cons a t => simp
    exact ⟨b, by rw [hv, ha]; rfl, World.block_lt_of_cell? w _ (hc 0 h0)⟩

end Go.Proofs.YtefneihlgclkbaaDoor.numb

/- l8Refine of the reference: a round more of two structures. -/
namespace Go.Proofs.YtefneihlgclkbaaDoor.refine
set_option linter.unusedVariables false
set_option linter.unusedSimpArgs false
open Go.ChangeShapes Go.WideShapes Go.ChangeAt Go.RowKit
open Go.Proofs.YtefneihlgclkbaaDoor.lib Go.Proofs.YtefneihlgclkbaaDoor.st Go.Proofs.YtefneihlgclkbaaDoor.base Go.Proofs.YtefneihlgclkbaaDoor.col Go.Proofs.YtefneihlgclkbaaDoor.colp Go.Proofs.YtefneihlgclkbaaDoor.sll Go.Proofs.YtefneihlgclkbaaDoor.kind Go.Proofs.YtefneihlgclkbaaDoor.srt Go.Proofs.YtefneihlgclkbaaDoor.descr Go.Proofs.YtefneihlgclkbaaDoor.numb

/-- an element's description: the first one, or by colours -/
def dsc (a : St) (first : Bool) (c : List Int) (x : Nat) : List Int := if first then d0 a x else desc a c x
theorem dsc_ne (a : St) (f : Bool) (c : List Int) (x : Nat) : dsc a f c x ≠ [] := by
  unfold dsc
  cases f
  · rw [if_neg (by simp)]; unfold desc descTo; simp
  · rw [if_pos rfl]; unfold d0; simp
theorem dsc_len (a : St) (f : Bool) (c : List Int) (x : Nat) (h : a.n ≤ 8) : (dsc a f c x).length ≤ 1000 := by
  unfold dsc
  cases f
  · rw [if_neg (by simp)]
    have := descTo_len a c x 4
    unfold desc; omega
  · rw [if_pos rfl]; unfold d0; simp
/-- the rows of the first k elements -/
def drow (a : St) (f : Bool) (c : List Int) (k : Nat) : List (List Int) := (List.range k).map (dsc a f c)
theorem drow_len (a : St) (f : Bool) (c : List Int) (k : Nat) : (drow a f c k).length = k := by simp [drow]
theorem drow_succ (a : St) (f : Bool) (c : List Int) (k : Nat) : drow a f c (k + 1) = drow a f c k ++ [dsc a f c k] := by simp [drow, List.range_succ]
theorem drow_short (a b : St) (f : Bool) (c d : List Int) (ha : a.n ≤ 8) (hb : b.n ≤ 8) : Short (drow a f c a.n ++ drow b f d b.n) := by
  refine ⟨by rw [List.length_append, drow_len, drow_len]; omega, fun l hl => ?_⟩
  rcases List.mem_append.1 hl with h | h
  · obtain ⟨x, _, rfl⟩ := List.mem_map.1 h; exact ⟨dsc_ne _ _ _ _, dsc_len _ _ _ _ ha⟩
  · obtain ⟨x, _, rfl⟩ := List.mem_map.1 h; exact ⟨dsc_ne _ _ _ _, dsc_len _ _ _ _ hb⟩
end Go.Proofs.YtefneihlgclkbaaDoor.refine

/- l8Both of the reference: the colours of two structures after some rounds. -/
namespace Go.Proofs.YtefneihlgclkbaaDoor.both
set_option linter.unusedVariables false
set_option linter.unusedSimpArgs false
open Go.ChangeShapes Go.WideShapes Go.ChangeAt Go.RowKit
open Go.Proofs.YtefneihlgclkbaaDoor.lib Go.Proofs.YtefneihlgclkbaaDoor.st Go.Proofs.YtefneihlgclkbaaDoor.base Go.Proofs.YtefneihlgclkbaaDoor.col Go.Proofs.YtefneihlgclkbaaDoor.colp Go.Proofs.YtefneihlgclkbaaDoor.sll Go.Proofs.YtefneihlgclkbaaDoor.refine

theorem zero_pair (a b : St) : nums (drow a true [] a.n ++ drow b true [] b.n) = cols [a, b] 0 := by
  unfold cols firsts firsts firsts drow
  have h : ∀ x : St, dsc x true [] = d0 x := fun x => by funext y; rfl
  rw [h, h, List.append_nil]
theorem succ_pair (a b : St) (k : Nat) : nums (drow a false ((cols [a, b] k).take a.n) a.n ++ drow b false ((cols [a, b] k).drop a.n) b.n) = cols [a, b] (k + 1) := by
  have hl := cols_len [a, b] k
  simp only [total] at hl
  rw [cols, nexts, nexts, nexts, List.append_nil]
  unfold drow
  have h : ∀ (x : St) (c : List Int), dsc x false c = desc x c := fun x c => by funext y; rfl
  rw [h, h, List.take_of_length_le (l := (cols [a, b] k).drop a.n) (by rw [List.length_drop]; omega)]
theorem take_len (a b : St) (k : Nat) : ((cols [a, b] k).take a.n).length = a.n ∧ ((cols [a, b] k).drop a.n).length = b.n := by
  have hl := cols_len [a, b] k
  simp only [total] at hl
  rw [List.length_take, List.length_drop]; omega
/-- the colours of the first, of the second one -/
def colA (a b : St) (k : Nat) : List Int := (cols [a, b] k).take a.n
def colB (a b : St) (k : Nat) : List Int := (cols [a, b] k).drop a.n

end Go.Proofs.YtefneihlgclkbaaDoor.both

/- Counting of colours in the reference: l8Most, l8Counts, l8Same; ColoursOf. -/
namespace Go.Proofs.YtefneihlgclkbaaDoor.specc
set_option linter.unusedVariables false
set_option linter.unusedSimpArgs false
open Go.ChangeShapes Go.WideShapes Go.ChangeAt Go.RowKit
open Go.Proofs.YtefneihlgclkbaaDoor.lib Go.Proofs.YtefneihlgclkbaaDoor.st Go.Proofs.YtefneihlgclkbaaDoor.base Go.Proofs.YtefneihlgclkbaaDoor.col Go.Proofs.YtefneihlgclkbaaDoor.colp Go.Proofs.YtefneihlgclkbaaDoor.sll Go.Proofs.YtefneihlgclkbaaDoor.both Go.Proofs.YtefneihlgclkbaaDoor.descr Go.Proofs.YtefneihlgclkbaaDoor.flow Go.Proofs.YtefneihlgclkbaaDoor.less

theorem mostTo_zero (c : List Int) : mostTo c 0 = 0 := by simp [mostTo]
theorem mostTo_succ {c : List Int} {k : Nat} (hk : k < c.length) : mostTo c (k + 1) = max (mostTo c k) (c.getD k 0 + 1) := by
  unfold mostTo
  rw [List.take_succ_eq_append_getElem hk, List.foldl_append, List.getD_eq_getElem?_getD, List.getElem?_eq_getElem hk]; rfl
theorem mostTo_full (c : List Int) : mostTo c c.length = most c := by unfold mostTo most; rw [List.take_length]
theorem mostTo_bd {c : List Int} (h : ∀ x, x ∈ c → 0 ≤ x ∧ x < 100) (k : Nat) : 0 ≤ mostTo c k ∧ mostTo c k ≤ 100 := by
  unfold mostTo
  obtain ⟨h1, h2, h3⟩ := fold_max (c.take k) 0
  refine ⟨h1, ?_⟩
  rcases h3 with h3 | ⟨x, hx, h3⟩
  · rw [h3]; omega
  · have := h x (List.mem_of_mem_take hx); omega
theorem get_bd {c : List Int} (h : ∀ x, x ∈ c → 0 ≤ x ∧ x < 100) {k : Nat} (hk : k < c.length) : 0 ≤ c.getD k 0 ∧ c.getD k 0 < 100 := by
  rw [List.getD_eq_getElem?_getD, List.getElem?_eq_getElem hk]; exact h _ (List.getElem_mem hk)

/-- the counts of the first i -/
def countsTo (c : List Int) (m i : Nat) : List Int := counts (c.take i) m
theorem countsTo_zero (c : List Int) (m : Nat) : countsTo c m 0 = List.replicate m 0 := by
  unfold countsTo counts
  apply List.ext_getElem (by simp)
  intro i h1 h2
  simp
theorem counts_len (c : List Int) (m : Nat) : (counts c m).length = m := by simp [counts]
theorem countsTo_get {c : List Int} {m i v : Nat} (hv : v < m) : (countsTo c m i).getD v 0 = (((c.take i).count (v : Int) : Nat) : Int) := by
  unfold countsTo counts
  rw [List.getD_eq_getElem?_getD, List.getElem?_map, List.getElem?_range hv]; rfl
theorem countsTo_succ {c : List Int} {m i v : Nat} (hi : i < c.length) (hv : c.getD i 0 = (v : Int)) (hm : v < m) : countsTo c m (i + 1) = (countsTo c m i).set v ((countsTo c m i).getD v 0 + 1) := by
  rw [countsTo_get hm]
  have hx : c[i] = (v : Int) := by rw [← hv, List.getD_eq_getElem?_getD, List.getElem?_eq_getElem hi]; rfl
  have e : c.take (i + 1) = c.take i ++ [(v : Int)] := by rw [List.take_succ_eq_append_getElem hi, hx]
  unfold countsTo counts
  rw [e]
  apply List.ext_getElem (by simp)
  intro j h1 h2
  have hj : j < m := by simpa using h1
  rw [List.getElem_set]
  simp only [List.getElem_map, List.getElem_range, List.count_append]
  by_cases e2 : v = j
  · subst e2; rw [if_pos rfl]; simp
  · rw [if_neg e2]
    have : List.count (j : Int) [(v : Int)] = 0 := by
      rw [List.count_eq_zero]; simp; omega
    rw [this]; rfl
theorem countsTo_full (c : List Int) (m : Nat) : countsTo c m c.length = counts c m := by unfold countsTo; rw [List.take_length]
theorem countsTo_bd (c : List Int) (m i v : Nat) (hv : v < m) : 0 ≤ (countsTo c m i).getD v 0 ∧ (countsTo c m i).getD v 0 ≤ i := by
  rw [countsTo_get hv]
  have := List.count_le_length (a := (v : Int)) (l := c.take i)
  rw [List.length_take] at this
  omega

end Go.Proofs.YtefneihlgclkbaaDoor.specc

/- The reference's colour functions: ColoursOf, StableColours, ColourCounts, BothColours, SameColours, ColourRound. -/
namespace Go.Proofs.YtefneihlgclkbaaDoor.specd
set_option linter.unusedVariables false
set_option linter.unusedSimpArgs false
open Go.ChangeShapes Go.WideShapes Go.ChangeAt Go.RowKit
open Go.Proofs.YtefneihlgclkbaaDoor.lib Go.Proofs.YtefneihlgclkbaaDoor.st Go.Proofs.YtefneihlgclkbaaDoor.base Go.Proofs.YtefneihlgclkbaaDoor.col Go.Proofs.YtefneihlgclkbaaDoor.colp Go.Proofs.YtefneihlgclkbaaDoor.sll Go.Proofs.YtefneihlgclkbaaDoor.both Go.Proofs.YtefneihlgclkbaaDoor.descr Go.Proofs.YtefneihlgclkbaaDoor.flow Go.Proofs.YtefneihlgclkbaaDoor.less Go.Proofs.YtefneihlgclkbaaDoor.specc

theorem valid_size {n : Int} {s r : ByteArray} (h : validB n s r = true) : ∃ N : Nat, n = N ∧ 1 ≤ N ∧ N ≤ 8 ∧ s.size = N ∧ r.size = N * N := by
  obtain ⟨⟨h2, h3⟩, hs, hr, _⟩ := validB_iff.1 h
  refine ⟨n.toNat, by omega, by omega, by omega, by omega, ?_⟩
  have e : (n.toNat : Int) = n := by omega
  have : ((n.toNat * n.toNat : Nat) : Int) = n * n := by rw [Int.natCast_mul, e]
  omega
theorem emptyRow (T : TypeId) (w : World) (B H : Nat) (hH : w.heap.size = H) (hB : B ≤ H) : OwnI T (w.alloc (.cells #[] T)) B (.slice (some ⟨H, 0, none⟩) 0 0) [] := by
  subst hH
  exact World.ownsRow_made w #[] 0 hB (by decide) rfl
/-- the colours of one after c rounds -/
def colsR (n : Int) (s r : ByteArray) (c : Int) : List Int := if validB n s r = true ∧ basic.inB c 0 8 = true then cols [⟨n.toNat, s, r⟩] c.toNat else []
theorem colsR_no {n : Int} {s r : ByteArray} {c : Int} (h : ¬ (validB n s r = true ∧ basic.inB c 0 8 = true)) : colsR n s r c = [] := if_neg h
theorem colsR_yes {N C : Nat} {s r : ByteArray} (h : validB N s r = true) (hc : C ≤ 8) : colsR N s r C = cols [⟨N, s, r⟩] C := by
  unfold colsR
  rw [if_pos ⟨h, basic.inB_true (by omega) (by omega)⟩]; rfl
theorem colA_self (a : St) (k : Nat) : colA a a k = cols [a] k := by
  unfold colA
  rw [cols_two]
  have h := cols_len [a] k
  simp only [total] at h
  rw [List.take_append_of_le_length (by omega), List.take_of_length_le (by omega)]
theorem colsR_len (n : Int) (s r : ByteArray) (c : Int) : (colsR n s r c).length ≤ 8 := by
  unfold colsR
  split
  · rename_i h
    obtain ⟨N, rfl, h1, h8, -, -⟩ := valid_size h.1
    have h := cols_len [⟨N, s, r⟩] c.toNat
    simp only [total] at h
    simp only [Int.toNat_natCast]
    omega
  · simp
theorem colsR_bd {n : Int} {s r : ByteArray} {c x : Int} (hx : x ∈ colsR n s r c) : 0 ≤ x ∧ x < most (colsR n s r c) ∧ most (colsR n s r c) ≤ 8 := by
  unfold colsR at *
  split at hx
  · rename_i h
    rw [if_pos h]
    obtain ⟨N, rfl, h1, h8, -, -⟩ := valid_size h.1
    simp only [Int.toNat_natCast] at hx ⊢
    have h2 := (cols_all (As := [⟨N, s, r⟩]) (by simp [total]; omega) c.toNat).1 hx
    have h3 := cols_most_le [⟨N, s, r⟩] c.toNat
    simp only [total] at h3
    exact ⟨h2.1, h2.2, by omega⟩
  · cases hx
theorem colsR_most (n : Int) (s r : ByteArray) (c : Int) : 0 ≤ most (colsR n s r c) ∧ most (colsR n s r c) ≤ 8 := by
  refine ⟨most_nonneg _, ?_⟩
  cases h : colsR n s r c with
  | nil => decide
  | cons a l => rw [← h]; exact (colsR_bd (x := a) (by rw [h]; exact List.mem_cons_self ..)).2.2

/-- the colours of one, counted -/
def countsR (n : Int) (s r : ByteArray) (c : Int) : List Int := counts (colsR n s r c) (most (colsR n s r c)).toNat
/-- the first round whose colours no further round refines -/
def stab (a : St) : Nat := ((List.range 8).find? fun k => decide (most (cols [a] k) = most (cols [a] (k + 1)))).getD 7
theorem stab_at {a : St} {k : Nat} (hk : k < 8) (h : most (cols [a] k) = most (cols [a] (k + 1))) (h2 : ∀ j, j < k → most (cols [a] j) ≠ most (cols [a] (j + 1))) : stab a = k := by
  have : (List.range 8).find? (fun k => decide (most (cols [a] k) = most (cols [a] (k + 1)))) = some k :=
    List.find?_range_eq_some.2 ⟨decide_eq_true h, List.mem_range.2 hk, fun j hj => by simpa using h2 j hj⟩
  unfold stab
  rw [this]; rfl
def stableL (n : Int) (s r : ByteArray) : List Int := if validB n s r = true then cols [⟨n.toNat, s, r⟩] (stab ⟨n.toNat, s, r⟩) else []
def stableN (n : Int) (s r : ByteArray) : Int := if validB n s r = true then (stab ⟨n.toNat, s, r⟩ : Nat) else -1
theorem stable_no {n : Int} {s r : ByteArray} (h : validB n s r = false) : stableL n s r = [] ∧ stableN n s r = -1 := by simp [stableL, stableN, h]
theorem stable_yes {N k : Nat} {s r : ByteArray} (h : validB N s r = true) (hk : stab ⟨N, s, r⟩ = k) : stableL N s r = cols [⟨N, s, r⟩] k ∧ stableN N s r = k := by simp [stableL, stableN, h, hk]
theorem stable_len (n : Int) (s r : ByteArray) : (stableL n s r).length ≤ 8 := by
  cases h : validB n s r with
  | false => rw [(stable_no h).1]; simp
  | true =>
    obtain ⟨N, rfl, h1, h8, -, -⟩ := valid_size h
    rw [(stable_yes h rfl).1, cols_len]
    simp only [total]; omega

end Go.Proofs.YtefneihlgclkbaaDoor.specd

/- The reference's functions of two structures' colours: BothColours, l8Same, SameColours, ColourRound. -/
namespace Go.Proofs.YtefneihlgclkbaaDoor.specd
set_option linter.unusedVariables false
set_option linter.unusedSimpArgs false
open Go.ChangeShapes Go.WideShapes Go.ChangeAt Go.RowKit
open Go.Proofs.YtefneihlgclkbaaDoor.lib Go.Proofs.YtefneihlgclkbaaDoor.st Go.Proofs.YtefneihlgclkbaaDoor.base Go.Proofs.YtefneihlgclkbaaDoor.col Go.Proofs.YtefneihlgclkbaaDoor.colp Go.Proofs.YtefneihlgclkbaaDoor.sll Go.Proofs.YtefneihlgclkbaaDoor.both Go.Proofs.YtefneihlgclkbaaDoor.descr Go.Proofs.YtefneihlgclkbaaDoor.flow Go.Proofs.YtefneihlgclkbaaDoor.less Go.Proofs.YtefneihlgclkbaaDoor.specc

theorem colA_len (a b : St) (k : Nat) : (colA a b k).length = a.n := (both.take_len a b k).1
theorem colB_len (a b : St) (k : Nat) : (colB a b k).length = b.n := (both.take_len a b k).2
theorem both_bd {a b : St} {k : Nat} {x : Int} (h : 0 < total [a, b]) (hx : x ∈ cols [a, b] k) : 0 ≤ x ∧ x < total [a, b] := by
  have h2 := (cols_all h k).1 hx
  have h3 := cols_most_le [a, b] k
  omega
theorem colA_bd {a b : St} {k : Nat} {x : Int} (h : 0 < total [a, b]) (hx : x ∈ colA a b k) : 0 ≤ x ∧ x < total [a, b] := both_bd h (List.mem_of_mem_take hx)
theorem colB_bd {a b : St} {k : Nat} {x : Int} (h : 0 < total [a, b]) (hx : x ∈ colB a b k) : 0 ≤ x ∧ x < total [a, b] := both_bd h (List.mem_of_mem_drop hx)
theorem most_le {c : List Int} {m : Int} (hm : 0 ≤ m) (h : ∀ x, x ∈ c → x < m) : most c ≤ m := by
  rcases (fold_max c 0).2.2 with h3 | ⟨x, hx, h3⟩
  · unfold most; rw [h3]; exact hm
  · unfold most; rw [h3]; have := h x hx; omega
theorem same_counts {a b : St} {k m : Nat} (h : 0 < total [a, b]) (hA : most (colA a b k) ≤ m) (hB : most (colB a b k) ≤ m) : decide (counts (colA a b k) m = counts (colB a b k) m) = sameAt a b k := by
  unfold sameAt
  rw [decide_eq_decide]
  exact counts_perm (fun x hx => ⟨(colA_bd h hx).1, by have := most_ge hx; omega⟩) (fun x hx => ⟨(colB_bd h hx).1, by have := most_ge hx; omega⟩)

/-- whether two structures have the same colours at the end -/
def sameR (n : Int) (s r : ByteArray) (m : Int) (t q : ByteArray) : Bool := validB n s r && (validB m t q && sameAt ⟨n.toNat, s, r⟩ ⟨m.toNat, t, q⟩ (n.toNat + m.toNat))
/-- the first round that tells both apart -/
def roundR (n : Int) (s r : ByteArray) (m : Int) (t q : ByteArray) : Int := if validB n s r = true ∧ validB m t q = true then roundTo ⟨n.toNat, s, r⟩ ⟨m.toNat, t, q⟩ (n.toNat + m.toNat + 1) else -2
theorem round_no {n : Int} {s r : ByteArray} {m : Int} {t q : ByteArray} (h : ¬ (validB n s r = true ∧ validB m t q = true)) : roundR n s r m t q = -2 := if_neg h
theorem round_yes {N M : Nat} {s r t q : ByteArray} (h : validB N s r = true) (h2 : validB M t q = true) : roundR N s r M t q = roundTo ⟨N, s, r⟩ ⟨M, t, q⟩ (N + M + 1) := by
  unfold roundR; rw [if_pos ⟨h, h2⟩]; rfl
theorem same_round (n : Int) (s r : ByteArray) (m : Int) (t q : ByteArray) : decide (roundR n s r m t q = -1) = sameR n s r m t q := by
  unfold roundR sameR
  cases h1 : validB n s r with
  | false => simp
  | true =>
    cases h2 : validB m t q with
    | false => simp
    | true =>
      simp only [Bool.true_and, and_self, if_true]
      cases h : sameAt ⟨n.toNat, s, r⟩ ⟨m.toNat, t, q⟩ (n.toNat + m.toNat) with
      | true => exact decide_eq_true (roundTo_none.2 h)
      | false => exact decide_eq_false fun e => by rw [roundTo_none.1 e] at h; cases h

end Go.Proofs.YtefneihlgclkbaaDoor.specd
