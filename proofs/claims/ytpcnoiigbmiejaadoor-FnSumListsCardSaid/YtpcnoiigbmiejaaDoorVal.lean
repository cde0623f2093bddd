/- Bits of texts that are made bit by bit: plain words. -/
import Derived.Test.YtpcnoiigbmiejaaDoorSum
namespace Go.Proofs.YtpcnoiigbmiejaaDoor.val
set_option linter.unusedVariables false
set_option linter.unusedSimpArgs false
open Go.Proofs.YtpcnoiigbmiejaaDoor.base Go.Proofs.YtpcnoiigbmiejaaDoor.make Go.Proofs.YtpcnoiigbmiejaaDoor.sum Go.Proofs.YtpcnoiigbmiejaaDoor.trim Go.Proofs.YtpcnoiigbmiejaaDoor.prod

def byteOf (b : Bool) : UInt8 := if b then 49 else 48
theorem byteOf_eq (b : Bool) : (byteOf b == 49) = b := by cases b <;> decide
theorem byteOf_bit (b : Bool) : (byteOf b == 48 || byteOf b == 49) = true := by cases b <;> decide
theorem toList_append (s t : ByteArray) : (s ++ t).data.toList = s.data.toList ++ t.data.toList := by simp
theorem bRow_list (acc : ByteArray) (q : Nat → Bool) : ∀ k, (bRow acc q k).data.toList = acc.data.toList ++ (List.range k).map fun y => byteOf (q y)
  | 0 => by simp [bRow]
  | k + 1 => by
    rw [bRow, toList_append, bRow_list acc q k, List.range_succ, List.map_append, List.append_assoc]
    rfl
theorem bR_list (q : Nat → Nat → Bool) (n : Nat) : ∀ k, (bR q n k).data.toList = (List.range k).flatMap fun x => (List.range n).map fun y => byteOf (q x y)
  | 0 => by simp [bR]
  | k + 1 => by
    rw [bR, bRow_list, bR_list q n k, List.range_succ, List.flatMap_append]
    simp
theorem bS_list' (p : Nat → Bool) (k : Nat) : (bS p k).data.toList = (List.range k).map fun i => byteOf (p i) := bS_list p k
theorem bits_bS (p : Nat → Bool) (k : Nat) : bitsB (bS p k) = true := by
  unfold bitsB
  rw [bS_list', List.all_eq_true]
  intro b hb
  obtain ⟨i, _, rfl⟩ := List.mem_map.1 hb
  exact byteOf_bit _
theorem bits_bR (q : Nat → Nat → Bool) (n k : Nat) : bitsB (bR q n k) = true := by
  unfold bitsB
  rw [bR_list, List.all_eq_true]
  intro b hb
  obtain ⟨x, _, hx⟩ := List.mem_flatMap.1 hb
  obtain ⟨y, _, rfl⟩ := List.mem_map.1 hx
  exact byteOf_bit _
theorem bits_app {s t : ByteArray} (hs : bitsB s = true) (ht : bitsB t = true) : bitsB (s ++ t) = true := by
  unfold bitsB at *
  rw [toList_append, List.all_append, hs, ht]; rfl
theorem bit_bS {p : Nat → Bool} {k i : Nat} (h : i < k) : bitAt (bS p k) i = p i := by
  unfold bitAt
  rw [bS_list', List.getD_eq_getElem?_getD]
  simp [h, byteOf_eq]
theorem bit_bR {q : Nat → Nat → Bool} {n k x y : Nat} (hx : x < k) (hy : y < n) : bitAt (bR q n k) (x * n + y) = q x y := by
  unfold bitAt
  rw [bR_list, List.getD_eq_getElem?_getD]
  have : ∀ k, x < k → ((List.range k).flatMap fun x => (List.range n).map fun y => byteOf (q x y))[x * n + y]? = some (byteOf (q x y)) := by
    intro k
    induction k with
    | zero => intro h; omega
    | succ k ih =>
      intro h
      have hlen : ∀ k, ((List.range k).flatMap fun x => (List.range n).map fun y => byteOf (q x y)).length = k * n := by
        intro k
        induction k with
        | zero => simp
        | succ k ih => rw [List.range_succ, List.flatMap_append, List.length_append, ih]; simp [Nat.succ_mul]
      rw [List.range_succ, List.flatMap_append]
      by_cases hk : x < k
      · rw [List.getElem?_append_left (by rw [hlen]; have : (x + 1) * n ≤ k * n := Nat.mul_le_mul_right n hk; rw [Nat.succ_mul] at this; omega)]
        exact ih hk
      · obtain rfl : x = k := by omega
        rw [List.getElem?_append_right (by rw [hlen]; omega), hlen, Nat.add_sub_cancel_left]
        simp [hy]
  rw [this k hx]
  simp [byteOf_eq]
theorem bit_app {s t : ByteArray} {i : Nat} : bitAt (s ++ t) i = if i < s.size then bitAt s i else bitAt t (i - s.size) := by
  unfold bitAt
  rw [toList_append]
  have e : s.data.toList.length = s.size := by simp
  by_cases h : i < s.size
  · rw [if_pos h, List.getD_eq_getElem?_getD, List.getD_eq_getElem?_getD, List.getElem?_append_left (by rw [e]; exact h)]
  · rw [if_neg h, List.getD_eq_getElem?_getD, List.getD_eq_getElem?_getD, List.getElem?_append_right (by rw [e]; omega), e]
/-- texts of bits are known by their bits -/
theorem bits_ext {s t : ByteArray} (hs : bitsB s = true) (ht : bitsB t = true) (hz : s.size = t.size) (h : ∀ i, i < s.size → bitAt s i = bitAt t i) : s = t := by
  have : s.data.toList = t.data.toList := by
    apply List.ext_getElem (by simpa using hz)
    intro i h1 h2
    have hi : i < s.size := by simpa using h1
    have a := bits_mem hs i hi
    have b := bits_mem ht i (by omega)
    rw [List.getD_eq_getElem?_getD, List.getElem?_eq_getElem h1, Option.getD_some] at a
    rw [List.getD_eq_getElem?_getD, List.getElem?_eq_getElem h2, Option.getD_some] at b
    rw [a, b, h i hi]
  have h2 : s.data = t.data := Array.toList_inj.1 this
  cases s; cases t; simp at h2; rw [h2]
/-- a relation's text is known by its pairs -/
theorem rel_ext {n : Nat} {s t : ByteArray} (hs : bitsB s = true) (ht : bitsB t = true) (hz : s.size = n * n) (hz2 : t.size = n * n) (h : ∀ x y, x < n → y < n → bitAt s (x * n + y) = bitAt t (x * n + y)) : s = t := by
  refine bits_ext hs ht (by omega) fun i hi => ?_
  rw [hz] at hi
  have hn : 0 < n := by
    cases n with
    | zero => simp at hi
    | succ n => omega
  have e : i / n * n + i % n = i := by rw [Nat.mul_comm]; exact Nat.div_add_mod i n
  have := h (i / n) (i % n) (Nat.div_lt_of_lt_mul hi) (Nat.mod_lt i hn)
  rwa [e] at this
/-- a structure that is made is valid -/
theorem valid_made {n : Nat} (p : Nat → Bool) (q : Nat → Nat → Bool) (h1 : 1 ≤ n) (h8 : n ≤ 8) : validB n (bS p n) (bR q n n) = true :=
  validB_iff.2 ⟨⟨by omega, by omega⟩, by rw [bS_size], by rw [bR_size]; simp, bits_bS _ _, bits_bR _ _ _⟩
/-- the sum is valid -/
theorem valid_sum {o : Bool} {N M : Nat} {s r t q : ByteArray} (hv : validB N s r = true) (hw : validB M t q = true) (h8 : N + M ≤ 8) : validB ((N + M : Nat) : Int) (s ++ t) (bR (sumRel o N r M q) (N + M) (N + M)) = true := by
  obtain ⟨⟨a1, a2⟩, a3, a4, a5, a6⟩ := validB_iff.1 hv
  obtain ⟨⟨b1, b2⟩, b3, b4, b5, b6⟩ := validB_iff.1 hw
  refine validB_iff.2 ⟨⟨by omega, by omega⟩, ?_, by rw [bR_size]; simp, bits_app a5 b5, bits_bR _ _ _⟩
  rw [ByteArray.size_append]; omega
end Go.Proofs.YtpcnoiigbmiejaaDoor.val
