/- Formulas in the program: put, the places taken. -/
import Derived.Test.YtefneihlgclkbaaFmO
import Derived.Test.YtefneihlgclkbaaFmI
namespace Go.Proofs.Ytefneihlgclkbaa.fmqu
set_option linter.unusedVariables false
set_option linter.unusedSimpArgs false
open Go.ChangeShapes Go.WideShapes Go.ChangeAt Go.RowKit
open Go.Proofs.Ytefneihlgclkbaa.lib Go.Proofs.Ytefneihlgclkbaa.fm Go.Proofs.Ytefneihlgclkbaa.fmt Go.Proofs.Ytefneihlgclkbaa.fmu Go.Proofs.Ytefneihlgclkbaa.fme Go.Proofs.Ytefneihlgclkbaa.fmx Go.Proofs.Ytefneihlgclkbaa.fmj Go.Proofs.Ytefneihlgclkbaa.fmv
open Go.Proofs.Ytefneihlgclkbaa.fmo

/-- the places taken so far, in memory -/
def Tk (wx : World) (B s v : Nat) (m : Nat → Nat) (k : Nat) : Prop := wx.heap[B]? = some (.cells #[.bool (tk s v m k 0), .bool (tk s v m k 1), .bool (tk s v m k 2), .bool (tk s v m k 3)] 67 (0, 0))
theorem Tk.c {wx : World} {B s v k : Nat} {m : Nat → Nat} (h : Tk wx B s v m k) : ∀ j, j < 4 → wx.cell? ⟨B, j, none⟩ = some (.bool (tk s v m k j)) := fun j hj => by
  unfold Tk at h
  obtain rfl | rfl | rfl | rfl : j = 0 ∨ j = 1 ∨ j = 2 ∨ j = 3 := by omega
  all_goals simp [World.cell?, h]
theorem Tk.free {wx : World} {B s v k : Nat} {m : Nat → Nat} (h : Tk wx B s v m k) (j : Nat) : wx.frozen? ⟨B, j, none⟩ = false := frozen_of_row wx B j _ _ h
theorem Tk.same {wx : World} {B s v k : Nat} {m : Nat → Nat} (h : Tk wx B s v m k) (hn : (inS s k && !decide (k = v)) = false) : Tk wx B s v m (k + 1) := by
  have e : ∀ j, tk s v m (k + 1) j = tk s v m k j := fun j => by rw [tk_succ, hn, Bool.false_and, Bool.or_false]
  unfold Tk
  rw [e, e, e, e]
  exact h
theorem Tk.set {wx : World} {B s v k : Nat} {m : Nat → Nat} (h : Tk wx B s v m k) (hn : (inS s k && !decide (k = v)) = true) (hm : m k < 4) : Tk (wx.setCell ⟨B, m k, none⟩ (.bool true)) B s v m (k + 1) := by
  have e : ∀ j, tk s v m (k + 1) j = (tk s v m k j || decide (m k = j)) := fun j => by rw [tk_succ, hn, Bool.true_and]
  unfold Tk
  rw [e, e, e, e]
  have := heap_setCell_same wx B (m k) _ _ (.bool true) h
  rw [this]
  obtain hh | hh | hh | hh : m k = 0 ∨ m k = 1 ∨ m k = 2 ∨ m k = 3 := by omega
  all_goals (rw [hh]; simp)
theorem Tk.below {w w' : World} {B s v k : Nat} {m : Nat → Nat} (h : Tk w B s v m k) (hb : Below w.heap.size w w') : Tk w' B s v m k := by
  unfold Tk at *
  rw [hb.block B (Array.getElem?_eq_some_iff.1 h).1]; exact h
theorem part_free {w : World} {a : Fm} {K : Nat} (h : Tree 49 w a K) : w.cell? ⟨K, 3, none⟩ = some (.int .i64 (a.free : Nat)) ∧ K < w.heap.size := by
  obtain ⟨op, vs, ps, hn⟩ := h.free
  obtain ⟨_, _, _, _, _, _, _, h3, _⟩ := hn.cells
  exact ⟨h3, hn.lt⟩
theorem fresh_idx {s v : Nat} {m : Nat → Nat} (hs : s < 16) (hv : v < 4) (hm : ∀ x, x < 4 → m x < 4) (h : tk s v m 4 v = true) : fresh v s m = idx (tk s v m 4) := by
  rw [fresh_tk hs hv hm, if_neg (by rw [h]; simp)]; rfl
theorem fresh_same {s v : Nat} {m : Nat → Nat} (hs : s < 16) (hv : v < 4) (hm : ∀ x, x < 4 → m x < 4) (h : tk s v m 4 v = false) : fresh v s m = some v := by
  rw [fresh_tk hs hv hm, if_pos h]
theorem idx_lt {b : Nat → Bool} {u : Nat} (h : idx b = some u) : u < 4 := List.mem_range.1 (List.mem_of_find?_eq_some h)
end Go.Proofs.Ytefneihlgclkbaa.fmqu
