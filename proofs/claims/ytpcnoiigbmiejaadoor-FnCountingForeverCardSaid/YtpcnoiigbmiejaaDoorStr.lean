/- The exact laws' helpers over structures: toStructure, szStructure, eqStructure: their contracts. A structure by value, and the block in which a boxed one lies. -/
import Derived.Test.YtpcnoiigbmiejaaDoorRows
import Derived.Test.YtpcnoiigbmiejaaDoorLib
namespace Go.Proofs.YtpcnoiigbmiejaaDoor.st
set_option linter.unusedVariables false
set_option linter.unusedSimpArgs false
open Go.ChangeShapes Go.WideShapes Go.ChangeAt Go.RowKit
open Go.Proofs.YtpcnoiigbmiejaaDoor.lib

/-- a structure by value -/
abbrev sv (n : Int) (s r : ByteArray) : Value := .agg #[.int .i64 n, .string s, .string r]
/-- block H holds a boxed structure of type T -/
def Box (T : TypeId) (w : World) (H : Nat) (n : Int) (s r : ByteArray) : Prop := w.heap[H]? = some (.cells #[.int .i64 n, .string s, .string r] T (0, 0))
theorem Box.c {T : TypeId} {w : World} {H : Nat} {n : Int} {s r : ByteArray} (h : Box T w H n s r) :
    w.cell? ⟨H, 0, none⟩ = some (.int .i64 n) ∧ w.cell? ⟨H, 1, none⟩ = some (.string s) ∧ w.cell? ⟨H, 2, none⟩ = some (.string r) := by
  unfold Box at h
  refine ⟨?_, ?_, ?_⟩ <;> simp [World.cell?, h]
theorem Box.below {T : TypeId} {w w' : World} {H C : Nat} {n : Int} {s r : ByteArray} (h : Box T w H n s r) (hb : Below C w w') (hC : H < C) : Box T w' H n s r := by
  unfold Box at *
  rw [hb.block H hC]; exact h
theorem Box.new (T : TypeId) (w : World) (H : Nat) (hH : w.heap.size = H) (n : Int) (s r : ByteArray) : Box T (w.alloc (.cells #[.int .i64 n, .string s, .string r] T)) H n s r := by
  subst hH; exact heap_alloc_new w _
theorem Box.lt {T : TypeId} {w : World} {H : Nat} {n : Int} {s r : ByteArray} (h : Box T w H n s r) : H < w.heap.size := (Array.getElem?_eq_some_iff.1 h).1

theorem Box.free {T : TypeId} {w : World} {H : Nat} {n : Int} {s r : ByteArray} (h : Box T w H n s r) (j : Nat) : w.frozen? ⟨H, j, none⟩ = false := frozen_of_row w H j _ T h
theorem Box.set0 {T : TypeId} {w : World} {H : Nat} {n : Int} {s r : ByteArray} (h : Box T w H n s r) (n' : Int) : Box T (w.setCell ⟨H, 0, none⟩ (.int .i64 n')) H n' s r := by
  have := heap_setCell_same w H 0 #[.int .i64 n, .string s, .string r] T (.int .i64 n') h
  unfold Box
  rw [this]; rfl
theorem Box.set1 {T : TypeId} {w : World} {H : Nat} {n : Int} {s r : ByteArray} (h : Box T w H n s r) (s' : ByteArray) : Box T (w.setCell ⟨H, 1, none⟩ (.string s')) H n s' r := by
  have := heap_setCell_same w H 1 #[.int .i64 n, .string s, .string r] T (.string s') h
  unfold Box
  rw [this]; rfl
theorem Box.set2 {T : TypeId} {w : World} {H : Nat} {n : Int} {s r : ByteArray} (h : Box T w H n s r) (r' : ByteArray) : Box T (w.setCell ⟨H, 2, none⟩ (.string r')) H n s r' := by
  have := heap_setCell_same w H 2 #[.int .i64 n, .string s, .string r] T (.string r') h
  unfold Box
  rw [this]; rfl
/-- what a world keeps of an older one: for regions that draw their order -/
theorem keepCell {W W' : World} (hb : Below W.heap.size W W') {a : Addr} {v : Value} (h : W.cell? a = some v) : W'.cell? a = some v := by
  rw [hb.cell (World.block_lt_of_cell? W a h)]; exact h
theorem keepBelow {w0 W W' : World} (hb : Below W.heap.size W W') (h : Hid (Below w0.heap.size w0 W)) : Hid (Below w0.heap.size w0 W') := h.out.trans (hb.mono h.out.size)

theorem keep6 {w0 W W' : World} {a1 a2 a3 a4 a5 a6 : Addr} {v1 v2 v3 v4 v5 v6 : Value} (hb : Below W.heap.size W W')
    (h : W.cell? a1 = some v1 ∧ W.cell? a2 = some v2 ∧ W.cell? a3 = some v3 ∧ W.cell? a4 = some v4 ∧ W.cell? a5 = some v5 ∧ W.cell? a6 = some v6 ∧ Hid (Below w0.heap.size w0 W)) :
    W'.cell? a1 = some v1 ∧ W'.cell? a2 = some v2 ∧ W'.cell? a3 = some v3 ∧ W'.cell? a4 = some v4 ∧ W'.cell? a5 = some v5 ∧ W'.cell? a6 = some v6 ∧ Hid (Below w0.heap.size w0 W') :=
  ⟨keepCell hb h.1, keepCell hb h.2.1, keepCell hb h.2.2.1, keepCell hb h.2.2.2.1, keepCell hb h.2.2.2.2.1, keepCell hb h.2.2.2.2.2.1, keepBelow hb h.2.2.2.2.2.2⟩
theorem keepS2 {w0 X : World} {a1 a2 a3 a4 a5 a6 : Addr} {v1 v2 v3 v4 v5 v6 : Value}
    (h : w0.cell? a1 = some v1 ∧ w0.cell? a2 = some v2 ∧ w0.cell? a3 = some v3 ∧ w0.cell? a4 = some v4 ∧ w0.cell? a5 = some v5 ∧ w0.cell? a6 = some v6) (hb : Below w0.heap.size w0 X) :
    X.cell? a1 = some v1 ∧ X.cell? a2 = some v2 ∧ X.cell? a3 = some v3 ∧ X.cell? a4 = some v4 ∧ X.cell? a5 = some v5 ∧ X.cell? a6 = some v6 ∧ Hid (Below w0.heap.size w0 X) :=
  ⟨keepCell hb h.1, keepCell hb h.2.1, keepCell hb h.2.2.1, keepCell hb h.2.2.2.1, keepCell hb h.2.2.2.2.1, keepCell hb h.2.2.2.2.2, hb⟩
theorem keepS1 {w0 X : World} {a1 a2 a3 : Addr} {v1 v2 v3 : Value} (h : w0.cell? a1 = some v1 ∧ w0.cell? a2 = some v2 ∧ w0.cell? a3 = some v3) (hb : Below w0.heap.size w0 X) :
    X.cell? a1 = some v1 ∧ X.cell? a2 = some v2 ∧ X.cell? a3 = some v3 ∧ Hid (Below w0.heap.size w0 X) := ⟨keepCell hb h.1, keepCell hb h.2.1, keepCell hb h.2.2, hb⟩
theorem keep6a {w0 W : World} {o : Obj} {a1 a2 a3 a4 a5 a6 : Addr} {v1 v2 v3 v4 v5 v6 : Value}
    (h : W.cell? a1 = some v1 ∧ W.cell? a2 = some v2 ∧ W.cell? a3 = some v3 ∧ W.cell? a4 = some v4 ∧ W.cell? a5 = some v5 ∧ W.cell? a6 = some v6 ∧ Hid (Below w0.heap.size w0 W)) :
    (W.alloc o).cell? a1 = some v1 ∧ (W.alloc o).cell? a2 = some v2 ∧ (W.alloc o).cell? a3 = some v3 ∧ (W.alloc o).cell? a4 = some v4 ∧ (W.alloc o).cell? a5 = some v5 ∧ (W.alloc o).cell? a6 = some v6 ∧ Hid (Below w0.heap.size w0 (W.alloc o)) :=
  keep6 ((Below.refl _ _).alloc (Nat.le_refl _) _) h
theorem out6 {w0 W : World} {a1 a2 a3 a4 a5 a6 : Addr} {v1 v2 v3 v4 v5 v6 : Value}
    (h : W.cell? a1 = some v1 ∧ W.cell? a2 = some v2 ∧ W.cell? a3 = some v3 ∧ W.cell? a4 = some v4 ∧ W.cell? a5 = some v5 ∧ W.cell? a6 = some v6 ∧ Hid (Below w0.heap.size w0 W)) : Below w0.heap.size w0 W := h.2.2.2.2.2.2

def szL (s r : ByteArray) (left : Int) : Int := if left - s.size < 0 then -1 else if left - s.size - r.size < 0 then -1 else left - s.size - r.size
theorem szL_le (s r : ByteArray) (left : Int) (h : 0 ≤ left) : szL s r left ≤ left := by unfold szL; split <;> (try split) <;> omega
theorem szL_sum (s r : ByteArray) (left : Int) (h : 0 ≤ szL s r left) (hl : 0 ≤ left) : (s.size : Int) + r.size + szL s r left = left := by unfold szL at *; split at h <;> (try split at h) <;> simp_all <;> omega
end Go.Proofs.YtpcnoiigbmiejaaDoor.st
