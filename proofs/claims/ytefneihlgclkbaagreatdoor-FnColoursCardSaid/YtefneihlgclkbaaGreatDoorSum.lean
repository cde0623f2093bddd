/- The sums, in the program and in the reference. -/
import Derived.Test.YtefneihlgclkbaaGreatDoorRows
import Derived.Test.YtefneihlgclkbaaGreatDoorBase
import Derived.Test.YtefneihlgclkbaaGreatDoorMake
import Derived.Test.YtefneihlgclkbaaGreatDoorFlow
import Derived.Test.YtefneihlgclkbaaGreatDoorProd
namespace Go.Proofs.YtefneihlgclkbaaGreatDoor.sum
set_option linter.unusedVariables false
set_option linter.unusedSimpArgs false
open Go.ChangeShapes Go.WideShapes Go.ChangeAt Go.RowKit
open Go.Proofs.YtefneihlgclkbaaGreatDoor.lib Go.Proofs.YtefneihlgclkbaaGreatDoor.st Go.Proofs.YtefneihlgclkbaaGreatDoor.base Go.Proofs.YtefneihlgclkbaaGreatDoor.make Go.Proofs.YtefneihlgclkbaaGreatDoor.flow Go.Proofs.YtefneihlgclkbaaGreatDoor.prod Go.Proofs.YtefneihlgclkbaaGreatDoor.trim Go.Proofs.YtefneihlgclkbaaGreatDoor.basic

def sumSet (n : Nat) (s t : ByteArray) (x : Nat) : Bool := if x < n then bitAt s x else bitAt t (x - n)
def sumRel (o : Bool) (n : Nat) (r : ByteArray) (m : Nat) (q : ByteArray) (x y : Nat) : Bool :=
  if x < n ∧ y < n then bitAt r (x * n + y) else if n ≤ x ∧ n ≤ y then bitAt q ((x - n) * m + (y - n)) else o && decide (x < n)
def okS (n : Int) (s r : ByteArray) (m : Int) (t q : ByteArray) : Bool := validB n s r && (validB m t q && decide (n + m ≤ 8))

theorem cell_below {w w' : World} {H C : Nat} {v : Value} (h : w.cell? ⟨H, 0, none⟩ = some v) (hb : Below C w w') (hC : H < C) : w'.cell? ⟨H, 0, none⟩ = some v := by
  rw [hb.cell (p := ⟨H, 0, none⟩) hC]; exact h
theorem cell_new (w : World) (v : Value) (E : TypeId) (H : Nat) (hH : w.heap.size = H) : (w.alloc (.cells #[v] E)).cell? ⟨H, 0, none⟩ = some v := by
  subst hH
  have h := heap_alloc_new w (.cells #[v] E)
  unfold World.cell?
  simp only []
  rw [h]
  rfl
theorem cell_lt {w : World} {H : Nat} {v : Value} (h : w.cell? ⟨H, 0, none⟩ = some v) : H < w.heap.size := World.block_lt_of_cell? w ⟨H, 0, none⟩ h

/-- the bits of a text of bits are the text -/
theorem bS_list (p : Nat → Bool) : ∀ k, (bS p k).data.toList = (List.range k).map fun i => if p i then (49 : UInt8) else 48
  | 0 => rfl
  | k + 1 => by
    rw [bS, ByteArray.data_append, Array.toList_append, bS_list p k, List.range_succ, List.map_append]
    rfl
theorem bits_mem {s : ByteArray} (h : bitsB s = true) (i : Nat) (hi : i < s.size) : s.data.toList.getD i 0 = if bitAt s i then 49 else 48 := by
  have h1 : s.data.toList.getD i 0 ∈ s.data.toList := by
    have hl : i < s.data.toList.length := by simpa using hi
    rw [List.getD_eq_getElem?_getD, List.getElem?_eq_getElem hl]
    exact List.getElem_mem hl
  unfold bitsB at h
  have h2 := List.all_eq_true.1 h _ h1
  unfold bitAt
  generalize s.data.toList.getD i 0 = b at h2 ⊢
  by_cases hb : b = 49
  · subst hb; rfl
  · have : b = 48 := by simpa [hb] using h2
    subst this; rfl
theorem bS_cat {n m : Nat} {s t : ByteArray} (hs : s.size = n) (ht : t.size = m) (bs : bitsB s = true) (bt : bitsB t = true) : bS (sumSet n s t) (n + m) = s ++ t := by
  apply ByteArray.ext
  apply Array.toList_inj.1
  rw [bS_list, ByteArray.data_append, Array.toList_append]
  have l1 : s.data.toList.length = n := by simpa using hs
  have l2 : t.data.toList.length = m := by simpa using ht
  apply List.ext_getElem
  · rw [List.length_map, List.length_range, List.length_append, l1, l2]
  · intro i h1 h2
    simp only [List.getElem_map, List.getElem_range]
    rw [List.getElem_append]
    by_cases h4 : i < n
    · have h3 : i < s.data.toList.length := by omega
      have := bits_mem bs i (by omega)
      rw [List.getD_eq_getElem?_getD, List.getElem?_eq_getElem h3] at this
      rw [dif_pos h3]
      simp only [sumSet, h4, if_true]
      exact this.symm
    · have h3 : ¬ i < s.data.toList.length := by omega
      have h5 : i < n + m := by rw [List.length_map, List.length_range] at h1; exact h1
      have h6 : i - n < t.data.toList.length := by omega
      have := bits_mem bt (i - n) (by omega)
      rw [List.getD_eq_getElem?_getD, List.getElem?_eq_getElem h6] at this
      rw [dif_neg h3]
      simp only [sumSet, h4, if_false]
      rw [← this]
      simp only [Option.getD_some, l1]

def sn (n : Int) (s r : ByteArray) (m : Int) (t q : ByteArray) : Int := if okS n s r m t q = true then n + m else 0
def ss (n : Int) (s r : ByteArray) (m : Int) (t q : ByteArray) : ByteArray := if okS n s r m t q = true then s ++ t else ⟨#[]⟩
def sr (o : Bool) (n : Int) (s r : ByteArray) (m : Int) (t q : ByteArray) : ByteArray := if okS n s r m t q = true then bR (sumRel o n.toNat r m.toNat q) (n.toNat + m.toNat) (n.toNat + m.toNat) else ⟨#[]⟩
theorem s_no {n : Int} {s r : ByteArray} {m : Int} {t q : ByteArray} (o : Bool) (h : okS n s r m t q = false) : sn n s r m t q = 0 ∧ ss n s r m t q = ⟨#[]⟩ ∧ sr o n s r m t q = ⟨#[]⟩ := by simp [sn, ss, sr, h]
theorem s_yes {N M K : Nat} {s r t q : ByteArray} (o : Bool) (hK : K = N + M) (h : okS N s r M t q = true) : sn N s r M t q = (K : Int) ∧ ss N s r M t q = s ++ t ∧ sr o N s r M t q = bR (sumRel o N r M q) K K := by
  subst hK
  simp [sn, ss, sr, h]

end Go.Proofs.YtefneihlgclkbaaGreatDoor.sum
