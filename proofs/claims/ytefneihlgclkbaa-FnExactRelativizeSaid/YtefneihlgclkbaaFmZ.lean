/- Formulas in the program: parsePart, letters with parts: plain words. -/
import Derived.Test.YtefneihlgclkbaaFmY
namespace Go.Proofs.Ytefneihlgclkbaa.fmz
set_option linter.unusedVariables false
set_option linter.unusedSimpArgs false
open Go.ChangeShapes Go.WideShapes Go.ChangeAt Go.RowKit
open Go.Proofs.Ytefneihlgclkbaa.lib Go.Proofs.Ytefneihlgclkbaa.fm Go.Proofs.Ytefneihlgclkbaa.fmp Go.Proofs.Ytefneihlgclkbaa.fmt Go.Proofs.Ytefneihlgclkbaa.fmu Go.Proofs.Ytefneihlgclkbaa.fme Go.Proofs.Ytefneihlgclkbaa.fmf Go.Proofs.Ytefneihlgclkbaa.fmw Go.Proofs.Ytefneihlgclkbaa.fmx

open Go.Proofs.Ytefneihlgclkbaa.fmy

theorem held_at {w w2 : World} {C lo k : Nat} {p : Value} {a : Fm} (h : Held w C p a k) (hC : lo ≤ C) (hg : Agree lo w.heap.size w w2) : Tree 49 w2 a k := by
  obtain ⟨l, h2, h3, h4, _, h6⟩ := h
  exact h6 w2 fun b hb hb2 => hg b (by omega) (by omega)
theorem or_zero (x : Nat) : 0 ||| x = x := Nat.zero_or x
theorem frs_one (a : Fm) : frs [a] = a.free := or_zero _
theorem frs_two (a b : Fm) : frs [a, b] = a.free ||| b.free := congrArg (· ||| b.free) (or_zero _)
theorem als_one (a : Fm) : als (alls []) [a] = Fm.all a := or_zero _
theorem als_two (a b : Fm) : als (alls []) [a, b] = Fm.all a ||| Fm.all b := congrArg (· ||| Fm.all b) (or_zero _)
theorem als_qu (m : Nat) (a : Fm) : als (alls [m]) [a] = 1 <<< m ||| Fm.all a := congrArg (· ||| Fm.all a) (or_zero _)
theorem frs_lt {q : List Fm} (h : ∀ a, a ∈ q → a.ok) : frs q < 16 := by
  have key : ∀ (l : List Fm) (x : Nat), x < 16 → (∀ u, u ∈ l → u.ok) → l.foldl (fun x a => x ||| a.free) x < 16 := by
    intro l
    induction l with
    | nil => intro x hx _; exact hx
    | cons y l ih => intro x hx h; exact ih _ (or_lt ⟨x, hx⟩ ⟨y.free, Fm.free_lt (h y List.mem_cons_self)⟩) fun u hu => h u (List.mem_cons_of_mem _ hu)
  exact key q 0 (by decide) h
theorem als_lt {q : List Fm} {x : Nat} (hx : x < 16) (h : ∀ a, a ∈ q → a.ok) : als x q < 16 := by
  have key : ∀ (l : List Fm) (x : Nat), x < 16 → (∀ u, u ∈ l → u.ok) → l.foldl (fun x a => x ||| Fm.all a) x < 16 := by
    intro l
    induction l with
    | nil => intro x hx _; exact hx
    | cons y l ih => intro x hx h; exact ih _ (or_lt ⟨x, hx⟩ ⟨Fm.all y, Fm.all_lt (h y List.mem_cons_self)⟩) fun u hu => h u (List.mem_cons_of_mem _ hu)
  exact key q x hx h
theorem tree_no {w w2 : World} {H : Nat} {op : UInt8} {v p : Value} {q : List (Fm × Nat)} {a : Fm} (ho : op = 33) (hq : q.map (·.1) = [a]) (h : Nd w (H + 1) H op v p [] (q.map (·.2)) (frs (q.map (·.1))) (als (alls []) (q.map (·.1)))) (hh : ∀ x, x ∈ q → Held w (H + 1) p x.1 x.2) (hg : Agree H w.heap.size w w2) : Tree 49 w2 (.no a) H := by
  match q, hq with
  | [(b, k)], hq =>
    obtain rfl : b = a := by simpa using hq
    subst ho
    have := h.nodeS (Nat.le_refl _) hg
    simp only [List.map_cons, List.map_nil] at this
    rw [frs_one, als_one] at this
    exact ⟨k, held_at (hh (b, k) (by simp)) (Nat.le_succ _) hg, this⟩
theorem tree_two {w w2 : World} {H : Nat} {op : UInt8} {v p : Value} {q : List (Fm × Nat)} {a b : Fm} (hq : q.map (·.1) = [a, b]) (h : Nd w (H + 1) H op v p [] (q.map (·.2)) (frs (q.map (·.1))) (als (alls []) (q.map (·.1)))) (hh : ∀ x, x ∈ q → Held w (H + 1) p x.1 x.2) (hg : Agree H w.heap.size w w2) : Tree 49 w2 (.two op a b) H := by
  match q, hq with
  | [(a', k), (b', l)], hq =>
    obtain ⟨rfl, rfl⟩ : a' = a ∧ b' = b := by simpa using hq
    have := h.nodeS (Nat.le_refl _) hg
    simp only [List.map_cons, List.map_nil] at this
    rw [frs_two, als_two] at this
    exact ⟨k, l, held_at (hh (a', k) (by simp)) (Nat.le_succ _) hg, held_at (hh (b', l) (by simp)) (Nat.le_succ _) hg, this⟩
theorem tree_qu {w w2 : World} {H m : Nat} {op : UInt8} {v p : Value} {q : List (Fm × Nat)} {a : Fm} (hq : q.map (·.1) = [a]) (h : Nd w (H + 1) H op v p [m] (q.map (·.2)) (frs (q.map (·.1)) &&& (15 ^^^ 1 <<< m)) (als (alls [m]) (q.map (·.1)))) (hh : ∀ x, x ∈ q → Held w (H + 1) p x.1 x.2) (hg : Agree H w.heap.size w w2) : Tree 49 w2 (.qu op m a) H := by
  match q, hq with
  | [(b, k)], hq =>
    obtain rfl : b = a := by simpa using hq
    have := h.nodeS (Nat.le_refl _) hg
    simp only [List.map_cons, List.map_nil] at this
    rw [frs_one, als_qu] at this
    exact ⟨k, held_at (hh (b, k) (by simp)) (Nat.le_succ _) hg, this⟩
theorem size_drop {s t : ByteArray} {l : List UInt8} (h : s.data.toList.drop 1 = l ++ t.data.toList) (hs : 0 < s.size) : t.size < s.size := by
  have := congrArg List.length h
  rw [List.length_drop, List.length_append, lsz, lsz] at this
  omega
end Go.Proofs.Ytefneihlgclkbaa.fmz
