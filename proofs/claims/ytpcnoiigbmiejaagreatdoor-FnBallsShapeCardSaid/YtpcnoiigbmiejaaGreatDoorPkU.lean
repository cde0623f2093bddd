/- Several texts in one: Sum, Val, Emb, Narrow. -/
import Derived.Test.YtpcnoiigbmiejaaGreatDoorRows
import Derived.Test.YtpcnoiigbmiejaaGreatDoorBase
import Derived.Test.YtpcnoiigbmiejaaGreatDoorMake
import Derived.Test.YtpcnoiigbmiejaaGreatDoorFlow
import Derived.Test.YtpcnoiigbmiejaaGreatDoorProd
import Derived.Test.YtpcnoiigbmiejaaGreatDoorTwin
import Derived.Test.YtpcnoiigbmiejaaGreatDoorPlaw
/- The sums, in the program and in the reference. -/
namespace Go.Proofs.YtpcnoiigbmiejaaGreatDoor.sum
set_option linter.unusedVariables false
set_option linter.unusedSimpArgs false
open Go.ChangeShapes Go.WideShapes Go.ChangeAt Go.RowKit
open Go.Proofs.YtpcnoiigbmiejaaGreatDoor.lib Go.Proofs.YtpcnoiigbmiejaaGreatDoor.st Go.Proofs.YtpcnoiigbmiejaaGreatDoor.base Go.Proofs.YtpcnoiigbmiejaaGreatDoor.make Go.Proofs.YtpcnoiigbmiejaaGreatDoor.flow Go.Proofs.YtpcnoiigbmiejaaGreatDoor.prod Go.Proofs.YtpcnoiigbmiejaaGreatDoor.trim Go.Proofs.YtpcnoiigbmiejaaGreatDoor.basic

def sumSet (n : Nat) (s t : ByteArray) (x : Nat) : Bool := if x < n then bitAt s x else bitAt t (x - n)
def sumRel (o : Bool) (n : Nat) (r : ByteArray) (m : Nat) (q : ByteArray) (x y : Nat) : Bool :=
  if x < n ∧ y < n then bitAt r (x * n + y) else if n ≤ x ∧ n ≤ y then bitAt q ((x - n) * m + (y - n)) else o && decide (x < n)
def okS (n : Int) (s r : ByteArray) (m : Int) (t q : ByteArray) : Bool := validB n s r && (validB m t q && decide (n + m ≤ 8))

theorem cell_below {w w' : World} {H C : Nat} {v : Value} (h : w.cell? ⟨H, 0, none⟩ = some v) (hb : Below C w w') (hC : H < C) : w'.cell? ⟨H, 0, none⟩ = some v := by
  rw [hb.cell (p := ⟨H, 0, none⟩) hC]; exact h
theorem cell_new (w : World) (v : Value) (E : TypeId) (H : Nat) (hH : w.heap.size = H) : (w.alloc (.cells #[v] E)).cell? ⟨H, 0, none⟩ = some v := by
  subst hH
  have h := heap_alloc_new w (.cells #[v] E)
  unfold World.cell?
  simp only []
  rw [h]
  rfl
theorem cell_lt {w : World} {H : Nat} {v : Value} (h : w.cell? ⟨H, 0, none⟩ = some v) : H < w.heap.size := World.block_lt_of_cell? w ⟨H, 0, none⟩ h

/-- the bits of a text of bits are the text -/
theorem bS_list (p : Nat → Bool) : ∀ k, (bS p k).data.toList = (List.range k).map fun i => if p i then (49 : UInt8) else 48
  | 0 => rfl
  | k + 1 => by
    rw [bS, ByteArray.data_append, Array.toList_append, bS_list p k, List.range_succ, List.map_append]
    rfl
theorem bits_mem {s : ByteArray} (h : bitsB s = true) (i : Nat) (hi : i < s.size) : s.data.toList.getD i 0 = if bitAt s i then 49 else 48 := by
  have h1 : s.data.toList.getD i 0 ∈ s.data.toList := by
    have hl : i < s.data.toList.length := by simpa using hi
    rw [List.getD_eq_getElem?_getD, List.getElem?_eq_getElem hl]
    exact List.getElem_mem hl
  unfold bitsB at h
  have h2 := List.all_eq_true.1 h _ h1
  unfold bitAt
  generalize s.data.toList.getD i 0 = b at h2 ⊢
  by_cases hb : b = 49
  · subst hb; rfl
  · have : b = 48 := by simpa [hb] using h2
    subst this; rfl
theorem bS_cat {n m : Nat} {s t : ByteArray} (hs : s.size = n) (ht : t.size = m) (bs : bitsB s = true) (bt : bitsB t = true) : bS (sumSet n s t) (n + m) = s ++ t := by
  apply ByteArray.ext
  apply Array.toList_inj.1
  rw [bS_list, ByteArray.data_append, Array.toList_append]
  have l1 : s.data.toList.length = n := by simpa using hs
  have l2 : t.data.toList.length = m := by simpa using ht
  apply List.ext_getElem
  · rw [List.length_map, List.length_range, List.length_append, l1, l2]
  · intro i h1 h2
    simp only [List.getElem_map, List.getElem_range]
    rw [List.getElem_append]
    by_cases h4 : i < n
    · have h3 : i < s.data.toList.length := by omega
      have := bits_mem bs i (by omega)
      rw [List.getD_eq_getElem?_getD, List.getElem?_eq_getElem h3] at this
      rw [dif_pos h3]
      simp only [sumSet, h4, if_true]
      exact this.symm
    · have h3 : ¬ i < s.data.toList.length := by omega
      have h5 : i < n + m := by rw [List.length_map, List.length_range] at h1; exact h1
      have h6 : i - n < t.data.toList.length := by omega
      have := bits_mem bt (i - n) (by omega)
      rw [List.getD_eq_getElem?_getD, List.getElem?_eq_getElem h6] at this
      rw [dif_neg h3]
      simp only [sumSet, h4, if_false]
      rw [← this]
      simp only [Option.getD_some, l1]

def sn (n : Int) (s r : ByteArray) (m : Int) (t q : ByteArray) : Int := if okS n s r m t q = true then n + m else 0
def ss (n : Int) (s r : ByteArray) (m : Int) (t q : ByteArray) : ByteArray := if okS n s r m t q = true then s ++ t else ⟨#[]⟩
def sr (o : Bool) (n : Int) (s r : ByteArray) (m : Int) (t q : ByteArray) : ByteArray := if okS n s r m t q = true then bR (sumRel o n.toNat r m.toNat q) (n.toNat + m.toNat) (n.toNat + m.toNat) else ⟨#[]⟩
theorem s_no {n : Int} {s r : ByteArray} {m : Int} {t q : ByteArray} (o : Bool) (h : okS n s r m t q = false) : sn n s r m t q = 0 ∧ ss n s r m t q = ⟨#[]⟩ ∧ sr o n s r m t q = ⟨#[]⟩ := by simp [sn, ss, sr, h]
theorem s_yes {N M K : Nat} {s r t q : ByteArray} (o : Bool) (hK : K = N + M) (h : okS N s r M t q = true) : sn N s r M t q = (K : Int) ∧ ss N s r M t q = s ++ t ∧ sr o N s r M t q = bR (sumRel o N r M q) K K := by
  subst hK
  simp [sn, ss, sr, h]

end Go.Proofs.YtpcnoiigbmiejaaGreatDoor.sum

/- Bits of texts that are made bit by bit: plain words. -/
namespace Go.Proofs.YtpcnoiigbmiejaaGreatDoor.val
set_option linter.unusedVariables false
set_option linter.unusedSimpArgs false
open Go.Proofs.YtpcnoiigbmiejaaGreatDoor.base Go.Proofs.YtpcnoiigbmiejaaGreatDoor.make Go.Proofs.YtpcnoiigbmiejaaGreatDoor.sum Go.Proofs.YtpcnoiigbmiejaaGreatDoor.trim Go.Proofs.YtpcnoiigbmiejaaGreatDoor.prod

def byteOf (b : Bool) : UInt8 := if b then 49 else 48
theorem byteOf_eq (b : Bool) : (byteOf b == 49) = b := by cases b <;> decide
theorem byteOf_bit (b : Bool) : (byteOf b == 48 || byteOf b == 49) = true := by cases b <;> decide
theorem toList_append (s t : ByteArray) : (s ++ t).data.toList = s.data.toList ++ t.data.toList := by simp
theorem bRow_list (acc : ByteArray) (q : Nat → Bool) : ∀ k, (bRow acc q k).data.toList = acc.data.toList ++ (List.range k).map fun y => byteOf (q y)
  | 0 => by simp [bRow]
  | k + 1 => by
    rw [bRow, toList_append, bRow_list acc q k, List.range_succ, List.map_append, List.append_assoc]
    rfl
theorem bR_list (q : Nat → Nat → Bool) (n : Nat) : ∀ k, (bR q n k).data.toList = (List.range k).flatMap fun x => (List.range n).map fun y => byteOf (q x y)
  | 0 => by simp [bR]
  | k + 1 => by
    rw [bR, bRow_list, bR_list q n k, List.range_succ, List.flatMap_append]
    simp
theorem bS_list' (p : Nat → Bool) (k : Nat) : (bS p k).data.toList = (List.range k).map fun i => byteOf (p i) := bS_list p k
theorem bits_bS (p : Nat → Bool) (k : Nat) : bitsB (bS p k) = true := by
  unfold bitsB
  rw [bS_list', List.all_eq_true]
  intro b hb
  obtain ⟨i, _, rfl⟩ := List.mem_map.1 hb
  exact byteOf_bit _
theorem bits_bR (q : Nat → Nat → Bool) (n k : Nat) : bitsB (bR q n k) = true := by
  unfold bitsB
  rw [bR_list, List.all_eq_true]
  intro b hb
  obtain ⟨x, _, hx⟩ := List.mem_flatMap.1 hb
  obtain ⟨y, _, rfl⟩ := List.mem_map.1 hx
  exact byteOf_bit _
theorem bits_app {s t : ByteArray} (hs : bitsB s = true) (ht : bitsB t = true) : bitsB (s ++ t) = true := by
  unfold bitsB at *
  rw [toList_append, List.all_append, hs, ht]; rfl
theorem bit_bS {p : Nat → Bool} {k i : Nat} (h : i < k) : bitAt (bS p k) i = p i := by
  unfold bitAt
  rw [bS_list', List.getD_eq_getElem?_getD]
  simp [h, byteOf_eq]
theorem bit_bR {q : Nat → Nat → Bool} {n k x y : Nat} (hx : x < k) (hy : y < n) : bitAt (bR q n k) (x * n + y) = q x y := by
  unfold bitAt
  rw [bR_list, List.getD_eq_getElem?_getD]
  have : ∀ k, x < k → ((List.range k).flatMap fun x => (List.range n).map fun y => byteOf (q x y))[x * n + y]? = some (byteOf (q x y)) := by
    intro k
    induction k with
    | zero => intro h; omega
    | succ k ih =>
      intro h
      have hlen : ∀ k, ((List.range k).flatMap fun x => (List.range n).map fun y => byteOf (q x y)).length = k * n := by
        intro k
        induction k with
        | zero => simp
        | succ k ih => rw [List.range_succ, List.flatMap_append, List.length_append, ih]; simp [Nat.succ_mul]
      rw [List.range_succ, List.flatMap_append]
      by_cases hk : x < k
      · rw [List.getElem?_append_left (by rw [hlen]; have : (x + 1) * n ≤ k * n := Nat.mul_le_mul_right n hk; rw [Nat.succ_mul] at this; omega)]
        exact ih hk
      · obtain rfl : x = k := by omega
        rw [List.getElem?_append_right (by rw [hlen]; omega), hlen, Nat.add_sub_cancel_left]
        simp [hy]
  rw [this k hx]
  simp [byteOf_eq]
theorem bit_app {s t : ByteArray} {i : Nat} : bitAt (s ++ t) i = if i < s.size then bitAt s i else bitAt t (i - s.size) := by
  unfold bitAt
  rw [toList_append]
  have e : s.data.toList.length = s.size := by simp
  by_cases h : i < s.size
  · rw [if_pos h, List.getD_eq_getElem?_getD, List.getD_eq_getElem?_getD, List.getElem?_append_left (by rw [e]; exact h)]
  · rw [if_neg h, List.getD_eq_getElem?_getD, List.getD_eq_getElem?_getD, List.getElem?_append_right (by rw [e]; omega), e]
/-- texts of bits are known by their bits -/
theorem bits_ext {s t : ByteArray} (hs : bitsB s = true) (ht : bitsB t = true) (hz : s.size = t.size) (h : ∀ i, i < s.size → bitAt s i = bitAt t i) : s = t := by
  have : s.data.toList = t.data.toList := by
    apply List.ext_getElem (by simpa using hz)
    intro i h1 h2
    have hi : i < s.size := by simpa using h1
    have a := bits_mem hs i hi
    have b := bits_mem ht i (by omega)
    rw [List.getD_eq_getElem?_getD, List.getElem?_eq_getElem h1, Option.getD_some] at a
    rw [List.getD_eq_getElem?_getD, List.getElem?_eq_getElem h2, Option.getD_some] at b
    rw [a, b, h i hi]
  have h2 : s.data = t.data := Array.toList_inj.1 this
  cases s; cases t; simp at h2; rw [h2]
/-- a relation's text is known by its pairs -/
theorem rel_ext {n : Nat} {s t : ByteArray} (hs : bitsB s = true) (ht : bitsB t = true) (hz : s.size = n * n) (hz2 : t.size = n * n) (h : ∀ x y, x < n → y < n → bitAt s (x * n + y) = bitAt t (x * n + y)) : s = t := by
  refine bits_ext hs ht (by omega) fun i hi => ?_
  rw [hz] at hi
  have hn : 0 < n := by
    cases n with
    | zero => simp at hi
    | succ n => omega
  have e : i / n * n + i % n = i := by rw [Nat.mul_comm]; exact Nat.div_add_mod i n
  have := h (i / n) (i % n) (Nat.div_lt_of_lt_mul hi) (Nat.mod_lt i hn)
  rwa [e] at this
/-- a structure that is made is valid -/
theorem valid_made {n : Nat} (p : Nat → Bool) (q : Nat → Nat → Bool) (h1 : 1 ≤ n) (h8 : n ≤ 8) : validB n (bS p n) (bR q n n) = true :=
  validB_iff.2 ⟨⟨by omega, by omega⟩, by rw [bS_size], by rw [bR_size]; simp, bits_bS _ _, bits_bR _ _ _⟩
/-- the sum is valid -/
theorem valid_sum {o : Bool} {N M : Nat} {s r t q : ByteArray} (hv : validB N s r = true) (hw : validB M t q = true) (h8 : N + M ≤ 8) : validB ((N + M : Nat) : Int) (s ++ t) (bR (sumRel o N r M q) (N + M) (N + M)) = true := by
  obtain ⟨⟨a1, a2⟩, a3, a4, a5, a6⟩ := validB_iff.1 hv
  obtain ⟨⟨b1, b2⟩, b3, b4, b5, b6⟩ := validB_iff.1 hw
  refine validB_iff.2 ⟨⟨by omega, by omega⟩, ?_, by rw [bR_size]; simp, bits_app a5 b5, bits_bR _ _ _⟩
  rw [ByteArray.size_append]; omega
end Go.Proofs.YtpcnoiigbmiejaaGreatDoor.val

/- A part that nothing else is related to: its balls are those of the whole. -/
namespace Go.Proofs.YtpcnoiigbmiejaaGreatDoor.emb
set_option linter.unusedVariables false
set_option linter.unusedSimpArgs false
open Go.Proofs.YtpcnoiigbmiejaaGreatDoor.base Go.Proofs.YtpcnoiigbmiejaaGreatDoor.near Go.Proofs.YtpcnoiigbmiejaaGreatDoor.dist Go.Proofs.YtpcnoiigbmiejaaGreatDoor.ball Go.Proofs.YtpcnoiigbmiejaaGreatDoor.cls Go.Proofs.YtpcnoiigbmiejaaGreatDoor.pieces Go.Proofs.YtpcnoiigbmiejaaGreatDoor.same Go.Proofs.YtpcnoiigbmiejaaGreatDoor.around Go.Proofs.YtpcnoiigbmiejaaGreatDoor.part Go.Proofs.YtpcnoiigbmiejaaGreatDoor.fits Go.Proofs.YtpcnoiigbmiejaaGreatDoor.make Go.Proofs.YtpcnoiigbmiejaaGreatDoor.val
/-- f lays the first structure into the second one; nothing outside is next to it -/
structure Emb (n : Nat) (sa ra : ByteArray) (m : Nat) (sb rb : ByteArray) (f : Nat → Nat) : Prop where
  lt : ∀ i, i < n → f i < m
  inj : ∀ i j, i < n → j < n → f i = f j → i = j
  s : ∀ i, i < n → bitAt sb (f i) = bitAt sa i
  r : ∀ i j, i < n → j < n → bitAt rb (f i * m + f j) = bitAt ra (i * n + j)
  out : ∀ i z, i < n → z < m → adj m rb (f i) z = true → ∃ j, j < n ∧ f j = z
variable {n : Nat} {sa ra : ByteArray} {m : Nat} {sb rb : ByteArray} {f : Nat → Nat} (h : Emb n sa ra m sb rb f)
include h
theorem Emb.adj {i j : Nat} (hi : i < n) (hj : j < n) : near.adj m rb (f i) (f j) = near.adj n ra i j := by
  unfold near.adj
  rw [h.r i j hi hj, h.r j i hj hi]
  have e : (f i != f j) = (i != j) := by
    by_cases e : i = j
    · subst e; exact (bne_self_eq_false _).trans (bne_self_eq_false _).symm
    · have : f i ≠ f j := fun e' => e (h.inj i j hi hj e')
      rw [bne_iff_ne.2 this, bne_iff_ne.2 e]
  rw [e]
theorem Emb.go {x : Nat} (hx : x < n) : ∀ {k y : Nat}, y < n → RK (near.adj n ra) n x k y → RK (near.adj m rb) m (f x) k (f y)
  | 0, y, hy, e => by
    have e : y = x := e
    subst e; rfl
  | k + 1, y, hy, e => by
    obtain ⟨z, hz, e, a⟩ := e
    exact ⟨f z, h.lt z hz, Emb.go hx hz e, by rw [h.adj hz hy]; exact a⟩
theorem Emb.back {x : Nat} (hx : x < n) : ∀ {k z : Nat}, z < m → RK (near.adj m rb) m (f x) k z → ∃ y, y < n ∧ f y = z ∧ RK (near.adj n ra) n x k y
  | 0, z, hz, e => ⟨x, hx, Eq.symm e, rfl⟩
  | k + 1, z, hz, e => by
    obtain ⟨u, hu, e, a⟩ := e
    obtain ⟨y, hy, rfl, e2⟩ := Emb.back hx hu e
    obtain ⟨j, hj, rfl⟩ := h.out y z hy hz a
    exact ⟨j, hj, rfl, ⟨y, hy, e2, by rw [← h.adj hy hj]; exact a⟩⟩
omit h in
theorem in_rk {nb : Nat → Nat → Bool} {n x y : Nat} {rad : Int} (hx : x < n) (hy : y < n) : (0 ≤ D nb n x y ∧ D nb n x y ≤ rad) ↔ ∃ k : Nat, (k : Int) ≤ rad ∧ RK nb n x k y := by
  constructor
  · rintro ⟨h1, h2⟩
    obtain ⟨k, hk⟩ : ∃ k : Nat, D nb n x y = k := ⟨(D nb n x y).toNat, by omega⟩
    exact ⟨k, by omega, RK_of_D hx k y hy hk⟩
  · rintro ⟨k, hk, e⟩
    have := D_le hx hy e
    omega
theorem Emb.ball {x y : Nat} {rad : Int} (hx : x < n) (hy : y < n) : inBall m rb (f x) rad (f y) = inBall n ra x rad y := by
  unfold inBall
  refine decide_eq_decide.2 ?_
  rw [in_rk (h.lt x hx) (h.lt y hy), in_rk hx hy]
  constructor
  · rintro ⟨k, hk, e⟩
    obtain ⟨y', hy', e1, e2⟩ := h.back hx (h.lt y hy) e
    obtain rfl : y' = y := h.inj _ _ hy' hy e1
    exact ⟨k, hk, e2⟩
  · rintro ⟨k, hk, e⟩
    exact ⟨k, hk, h.go hx hy e⟩
theorem Emb.ball_out {x z : Nat} {rad : Int} (hx : x < n) (hz : z < m) (e : inBall m rb (f x) rad z = true) : ∃ y, y < n ∧ f y = z := by
  unfold inBall at e
  obtain ⟨k, hk, e⟩ := (in_rk (h.lt x hx) hz).1 (of_decide_eq_true e)
  obtain ⟨y, hy, e1, _⟩ := h.back hx hz e
  exact ⟨y, hy, e1⟩
theorem Emb.mem {x z : Nat} {rad : Int} (hx : x < n) : z ∈ midN m rb (f x) rad ↔ ∃ y, y ∈ midN n ra x rad ∧ f y = z := by
  constructor
  · intro e
    rcases List.mem_cons.1 e with rfl | e
    · exact ⟨x, List.mem_cons_self .., rfl⟩
    · obtain ⟨e1, e2⟩ := List.mem_filter.1 e
      rw [Bool.and_eq_true] at e2
      have hz := List.mem_range.1 e1
      obtain ⟨y, hy, rfl⟩ := h.ball_out hx hz e2.2
      have e3 := e2.2
      rw [h.ball hx hy] at e3
      refine ⟨y, List.mem_cons_of_mem _ (List.mem_filter.2 ⟨List.mem_range.2 hy, ?_⟩), rfl⟩
      rw [Bool.and_eq_true]
      refine ⟨?_, e3⟩
      have := e2.1
      simp at this ⊢
      exact fun e => this (by rw [e])
  · rintro ⟨y, e, rfl⟩
    have hy := midN_lt hx y e
    rcases List.mem_cons.1 e with rfl | e
    · exact List.mem_cons_self ..
    · obtain ⟨e1, e2⟩ := List.mem_filter.1 e
      rw [Bool.and_eq_true] at e2
      refine List.mem_cons_of_mem _ (List.mem_filter.2 ⟨List.mem_range.2 (h.lt y hy), ?_⟩)
      rw [Bool.and_eq_true, h.ball hx hy]
      refine ⟨?_, e2.2⟩
      have := e2.1
      simp at this ⊢
      exact fun e => this (h.inj _ _ hy hx e)
omit h in
theorem nodup_map {l : List Nat} (f : Nat → Nat) (hi : ∀ i j, i ∈ l → j ∈ l → f i = f j → i = j) (hn : l.Nodup) : (l.map f).Nodup := by
  induction l with
  | nil => simp
  | cons a l ih =>
    rw [List.map_cons, List.nodup_cons]
    obtain ⟨h1, h2⟩ := List.nodup_cons.1 hn
    refine ⟨fun hm => ?_, ih (fun i j hi' hj' => hi i j (List.mem_cons_of_mem _ hi') (List.mem_cons_of_mem _ hj')) h2⟩
    obtain ⟨b, hb, e⟩ := List.mem_map.1 hm
    exact h1 (hi b a (List.mem_cons_of_mem _ hb) (List.mem_cons_self ..) e ▸ hb)
theorem Emb.perm {x : Nat} {rad : Int} (hx : x < n) : ((midN n ra x rad).map f).Perm (midN m rb (f x) rad) := by
  refine (List.perm_ext_iff_of_nodup (nodup_map f (fun i j hi hj => h.inj i j (midN_lt hx i hi) (midN_lt hx j hj)) (midN_nodup _ _ _ _)) (midN_nodup _ _ _ _)).2 fun z => ?_
  rw [h.mem hx, List.mem_map]
theorem Emb.same {x : Nat} {rad : Int} (hx : x < n) : sameB n sa ra x m sb rb (f x) rad = true := by
  have hp := h.perm (rad := rad) hx
  have hlen : aN n ra x rad = aN m rb (f x) rad := by
    have := hp.length_eq
    rw [List.length_map] at this; exact this
  rw [sameB_comm]
  refine sameB_iff.2 ⟨hlen.symm, ?_⟩
  rw [← hlen]
  obtain ⟨La, hLa⟩ : ∃ l, l = midN n ra x rad := ⟨_, rfl⟩
  obtain ⟨Lb, hLb⟩ : ∃ l, l = midN m rb (f x) rad := ⟨_, rfl⟩
  have hk : aN n ra x rad = La.length := by rw [hLa]; rfl
  have hkb : Lb.length = La.length := by rw [← hk, hLb]; exact hlen.symm
  have nda : La.Nodup := by rw [hLa]; exact midN_nodup _ _ _ _
  have hlt : ∀ i, i < La.length → La.getD i 0 < n := fun i hi => getD_lt (l := La) (n := n) (by rw [hLa]; exact midN_lt hx) hi
  have hmem : ∀ i, i < La.length → f (La.getD i 0) ∈ Lb := fun i hi => by
    rw [hLb]
    refine (h.mem hx).2 ⟨_, ?_, rfl⟩
    rw [← hLa, List.getD_eq_getElem?_getD, List.getElem?_eq_getElem hi]; exact List.getElem_mem hi
  have hix : ∀ i, i < La.length → Lb.idxOf (f (La.getD i 0)) < La.length ∧ Lb.getD (Lb.idxOf (f (La.getD i 0))) 0 = f (La.getD i 0) := fun i hi => by
    have e := List.idxOf_lt_length_of_mem (hmem i hi)
    refine ⟨by omega, ?_⟩
    rw [List.getD_eq_getElem?_getD, List.getElem?_eq_getElem e, Option.getD_some, List.getElem_idxOf]
  have h0a : La.getD 0 0 = x := by rw [hLa]; rfl
  have h0b : Lb.getD 0 0 = f x := by rw [hLb]; rfl
  have hpos : 0 < La.length := by rw [hLa]; exact midN_pos _ _ _ _
  rw [hk]
  refine ⟨_, Iso.of_fun (fun i => Lb.idxOf (f (La.getD i 0))) (fun i hi => (hix i hi).1) (fun i j hi hj e => ?_) (fun i hi => ?_) (fun i j hi hj => ?_), ?_⟩
  · have e1 : f (La.getD i 0) = f (La.getD j 0) := by rw [← (hix i hi).2, ← (hix j hj).2]; exact congrArg (fun z => Lb.getD z 0) e
    have e2 := h.inj _ _ (hlt i hi) (hlt j hj) e1
    rw [List.getD_eq_getElem?_getD, List.getElem?_eq_getElem hi, List.getD_eq_getElem?_getD, List.getElem?_eq_getElem hj] at e2
    refine Classical.byContradiction fun hne => ?_
    rcases Nat.lt_or_gt_of_ne hne with hl | hl
    · exact List.pairwise_iff_getElem.1 nda i j hi hj hl e2
    · exact List.pairwise_iff_getElem.1 nda j i hj hi hl e2.symm
  · unfold aS
    rw [← hLa, ← hLb, bit_bS (by have := (hix i hi).1; omega), bit_bS hi]
    unfold pS
    rw [(hix i hi).2, h.s _ (hlt i hi)]
  · unfold aR
    rw [← hLa, ← hLb, hkb, bit_bR (hix i hi).1 (hix j hj).1, bit_bR hi hj]
    unfold pR
    rw [(hix i hi).2, (hix j hj).2, h.r _ _ (hlt i hi) (hlt j hj)]
  · rw [getD_map_range _ hpos, h0a, ← h0b]
    have e : Lb ≠ [] := fun e => by rw [e] at hkb; simp at hkb; omega
    cases Lb with
    | nil => exact absurd rfl e
    | cons a l => simp
end Go.Proofs.YtpcnoiigbmiejaaGreatDoor.emb

/- Balls of the same shape stay so with a smaller radius. No program in sight. -/
namespace Go.Proofs.YtpcnoiigbmiejaaGreatDoor.narrow
set_option linter.unusedVariables false
set_option linter.unusedSimpArgs false
open Go.Proofs.YtpcnoiigbmiejaaGreatDoor.base Go.Proofs.YtpcnoiigbmiejaaGreatDoor.near Go.Proofs.YtpcnoiigbmiejaaGreatDoor.dist Go.Proofs.YtpcnoiigbmiejaaGreatDoor.ball Go.Proofs.YtpcnoiigbmiejaaGreatDoor.cls Go.Proofs.YtpcnoiigbmiejaaGreatDoor.pieces Go.Proofs.YtpcnoiigbmiejaaGreatDoor.same Go.Proofs.YtpcnoiigbmiejaaGreatDoor.around Go.Proofs.YtpcnoiigbmiejaaGreatDoor.part Go.Proofs.YtpcnoiigbmiejaaGreatDoor.fits Go.Proofs.YtpcnoiigbmiejaaGreatDoor.make Go.Proofs.YtpcnoiigbmiejaaGreatDoor.val Go.Proofs.YtpcnoiigbmiejaaGreatDoor.emb
/-- who is in a ball -/
theorem mem_mid {n : Nat} {r : ByteArray} {x z : Nat} {rad : Int} (hx : x < n) (h0 : 0 ≤ rad) : z ∈ midN n r x rad ↔ z < n ∧ ∃ k : Nat, (k : Int) ≤ rad ∧ RK (near.adj n r) n x k z := by
  unfold midN
  rw [List.mem_cons, List.mem_filter, List.mem_range]
  constructor
  · rintro (rfl | ⟨h1, h2⟩)
    · exact ⟨hx, 0, by omega, rfl⟩
    · rw [Bool.and_eq_true] at h2
      have h3 := h2.2
      unfold inBall at h3
      exact ⟨h1, (in_rk hx h1).1 (of_decide_eq_true h3)⟩
  · rintro ⟨h1, h2⟩
    by_cases e : z = x
    · exact .inl e
    · refine .inr ⟨h1, ?_⟩
      rw [Bool.and_eq_true]
      refine ⟨by simpa using e, ?_⟩
      unfold inBall
      exact decide_eq_true ((in_rk hx h1).2 h2)
/-- a law of bits between two balls makes them alike -/
theorem same_of {n : Nat} {sa ra : ByteArray} {x m : Nat} {sb rb : ByteArray} {y : Nat} {rad : Int} (f : Nat → Nat) (hx : x < n) (h0 : f x = y)
    (hinj : ∀ i j, i ∈ midN n ra x rad → j ∈ midN n ra x rad → f i = f j → i = j) (hs : ∀ i, i ∈ midN n ra x rad → bitAt sb (f i) = bitAt sa i)
    (hr : ∀ i j, i ∈ midN n ra x rad → j ∈ midN n ra x rad → bitAt rb (f i * m + f j) = bitAt ra (i * n + j))
    (hmem : ∀ z, z ∈ midN m rb y rad ↔ ∃ u, u ∈ midN n ra x rad ∧ f u = z) : sameB n sa ra x m sb rb y rad = true := by
  have hp : ((midN n ra x rad).map f).Perm (midN m rb y rad) := by
    refine (List.perm_ext_iff_of_nodup (nodup_map f hinj (midN_nodup _ _ _ _)) (midN_nodup _ _ _ _)).2 fun z => ?_
    rw [hmem, List.mem_map]
  have hlen : aN n ra x rad = aN m rb y rad := by
    have := hp.length_eq
    rw [List.length_map] at this; exact this
  rw [sameB_comm]
  refine sameB_iff.2 ⟨hlen.symm, ?_⟩
  rw [← hlen]
  obtain ⟨La, hLa⟩ : ∃ l, l = midN n ra x rad := ⟨_, rfl⟩
  obtain ⟨Lb, hLb⟩ : ∃ l, l = midN m rb y rad := ⟨_, rfl⟩
  have hk : aN n ra x rad = La.length := by rw [hLa]; rfl
  have hkb : Lb.length = La.length := by rw [← hk, hLb]; exact hlen.symm
  have nda : La.Nodup := by rw [hLa]; exact midN_nodup _ _ _ _
  rw [← hLa] at hinj hs hr
  have hin : ∀ i, i < La.length → La.getD i 0 ∈ La := fun i hi => by
    rw [List.getD_eq_getElem?_getD, List.getElem?_eq_getElem hi]; exact List.getElem_mem hi
  have hmm : ∀ i, i < La.length → f (La.getD i 0) ∈ Lb := fun i hi => by
    rw [hLb]
    refine (hmem _).2 ⟨_, ?_, rfl⟩
    rw [← hLa]; exact hin i hi
  have hix : ∀ i, i < La.length → Lb.idxOf (f (La.getD i 0)) < La.length ∧ Lb.getD (Lb.idxOf (f (La.getD i 0))) 0 = f (La.getD i 0) := fun i hi => by
    have e := List.idxOf_lt_length_of_mem (hmm i hi)
    refine ⟨by omega, ?_⟩
    rw [List.getD_eq_getElem?_getD, List.getElem?_eq_getElem e, Option.getD_some, List.getElem_idxOf]
  have h0a : La.getD 0 0 = x := by rw [hLa]; rfl
  have h0b : Lb.getD 0 0 = f x := by rw [hLb, h0]; rfl
  have hpos : 0 < La.length := by rw [hLa]; exact midN_pos _ _ _ _
  rw [hk]
  refine ⟨_, Iso.of_fun (fun i => Lb.idxOf (f (La.getD i 0))) (fun i hi => (hix i hi).1) (fun i j hi hj e => ?_) (fun i hi => ?_) (fun i j hi hj => ?_), ?_⟩
  · have e1 : f (La.getD i 0) = f (La.getD j 0) := by rw [← (hix i hi).2, ← (hix j hj).2]; exact congrArg (fun z => Lb.getD z 0) e
    have e2 := hinj _ _ (hin i hi) (hin j hj) e1
    rw [List.getD_eq_getElem?_getD, List.getElem?_eq_getElem hi, List.getD_eq_getElem?_getD, List.getElem?_eq_getElem hj] at e2
    refine Classical.byContradiction fun hne => ?_
    rcases Nat.lt_or_gt_of_ne hne with hl | hl
    · exact List.pairwise_iff_getElem.1 nda i j hi hj hl e2
    · exact List.pairwise_iff_getElem.1 nda j i hj hi hl e2.symm
  · unfold aS
    rw [← hLa, ← hLb, bit_bS (by have := (hix i hi).1; omega), bit_bS hi]
    unfold pS
    rw [(hix i hi).2, hs _ (hin i hi)]
  · unfold aR
    rw [← hLa, ← hLb, hkb, bit_bR (hix i hi).1 (hix j hj).1, bit_bR hi hj]
    unfold pR
    rw [(hix i hi).2, (hix j hj).2, hr _ _ (hin i hi) (hin j hj)]
  · rw [getD_map_range _ hpos, h0a, ← h0b]
    have e : Lb ≠ [] := fun e => by rw [e] at hkb; simp at hkb; omega
    cases Lb with
    | nil => exact absurd rfl e
    | cons a l => simp
/-- balls alike come with a law of bits -/
theorem same_out {n : Nat} {sa ra : ByteArray} {x m : Nat} {sb rb : ByteArray} {y : Nat} {rad : Int} (h : sameB n sa ra x m sb rb y rad = true) :
    ∃ f : Nat → Nat, f x = y ∧ (∀ i, i ∈ midN n ra x rad → f i ∈ midN m rb y rad) ∧ (∀ i j, i ∈ midN n ra x rad → j ∈ midN n ra x rad → f i = f j → i = j) ∧ (∀ i, i ∈ midN n ra x rad → bitAt sb (f i) = bitAt sa i) ∧
    (∀ i j, i ∈ midN n ra x rad → j ∈ midN n ra x rad → bitAt rb (f i * m + f j) = bitAt ra (i * n + j)) ∧ (∀ z, z ∈ midN m rb y rad → ∃ u, u ∈ midN n ra x rad ∧ f u = z) := by
  obtain ⟨e, o, ho, h0⟩ := sameB_iff.1 (sameB_symm h)
  obtain ⟨La, hLa⟩ : ∃ l, l = midN n ra x rad := ⟨_, rfl⟩
  obtain ⟨Lb, hLb⟩ : ∃ l, l = midN m rb y rad := ⟨_, rfl⟩
  have ndb : Lb.Nodup := by rw [hLb]; exact midN_nodup _ _ _ _
  have nda : La.Nodup := by rw [hLa]; exact midN_nodup _ _ _ _
  have hkb : aN m rb y rad = Lb.length := by rw [hLb]; rfl
  have hka : Lb.length = La.length := by rw [← hkb, e, hLa]; rfl
  have h0a : La.getD 0 0 = x := by rw [hLa]; rfl
  have h0b : Lb.getD 0 0 = y := by rw [hLb]; rfl
  have hpos : 0 < La.length := by rw [hLa]; exact midN_pos _ _ _ _
  rw [hkb] at ho
  unfold aS aR at ho
  rw [← hLa, ← hLb, ← hka] at ho
  rw [← hLa, ← hLb]
  have hix : ∀ i, i ∈ La → La.idxOf i < Lb.length ∧ La.getD (La.idxOf i) 0 = i := fun i hi => by
    have e := List.idxOf_lt_length_of_mem hi
    refine ⟨by omega, ?_⟩
    rw [List.getD_eq_getElem?_getD, List.getElem?_eq_getElem e, Option.getD_some, List.getElem_idxOf]
  have hinB : ∀ i, i < Lb.length → Lb.getD i 0 ∈ Lb := fun i hi => by
    rw [List.getD_eq_getElem?_getD, List.getElem?_eq_getElem hi]; exact List.getElem_mem hi
  have hinA : ∀ i, i < La.length → La.getD i 0 ∈ La := fun i hi => by
    rw [List.getD_eq_getElem?_getD, List.getElem?_eq_getElem hi]; exact List.getElem_mem hi
  have hxA : x ∈ La := by rw [← h0a]; exact hinA 0 hpos
  have uniq : ∀ {L : List Nat}, L.Nodup → ∀ {i j : Nat}, i < L.length → j < L.length → L.getD i 0 = L.getD j 0 → i = j := by
    intro L nd i j hi hj e2
    rw [List.getD_eq_getElem?_getD, List.getElem?_eq_getElem hi, List.getD_eq_getElem?_getD, List.getElem?_eq_getElem hj] at e2
    refine Classical.byContradiction fun hne => ?_
    rcases Nat.lt_or_gt_of_ne hne with hl | hl
    · exact List.pairwise_iff_getElem.1 nd i j hi hj hl e2
    · exact List.pairwise_iff_getElem.1 nd j i hj hi hl e2.symm
  refine ⟨fun i => Lb.getD (o.getD (La.idxOf i) 0) 0, ?_, fun i hi => ?_, fun i j hi hj e => ?_, fun i hi => ?_, fun i j hi hj => ?_, fun z hz => ?_⟩
  · show Lb.getD (o.getD (La.idxOf x) 0) 0 = y
    have : La.idxOf x = 0 := by
      have h := hix x hxA
      exact uniq nda (by omega) hpos (by rw [h.2, h0a])
    rw [this, h0, h0b]
  · exact hinB _ (ho.lt _ (hix i hi).1)
  · have e1 := uniq ndb (ho.lt _ (hix i hi).1) (ho.lt _ (hix j hj).1) e
    have e2 := ho.inj _ _ (hix i hi).1 (hix j hj).1 e1
    rw [← (hix i hi).2, e2, (hix j hj).2]
  · have h1 := (hix i hi).1
    have h2 := ho.s _ h1
    rw [bit_bS (by have := ho.lt _ h1; omega), bit_bS (by omega)] at h2
    unfold pS at h2
    rw [(hix i hi).2] at h2; exact h2
  · have h1 := (hix i hi).1
    have h1' := (hix j hj).1
    have h2 := ho.r _ _ h1 h1'
    rw [bit_bR (ho.lt _ h1) (ho.lt _ h1'), bit_bR h1 h1'] at h2
    unfold pR at h2
    rw [(hix i hi).2, (hix j hj).2] at h2; exact h2
  · have e3 := List.idxOf_lt_length_of_mem hz
    obtain ⟨i, hi, hi2⟩ := ho.onto e3
    refine ⟨La.getD i 0, hinA i (by omega), ?_⟩
    show Lb.getD (o.getD (La.idxOf (La.getD i 0)) 0) 0 = z
    have h := hix _ (hinA i (by omega))
    have : La.idxOf (La.getD i 0) = i := uniq nda (by omega) (by omega) h.2
    rw [this, hi2, List.getD_eq_getElem?_getD, List.getElem?_eq_getElem e3, Option.getD_some, List.getElem_idxOf]
/-- a smaller radius -/
theorem less {n : Nat} {sa ra : ByteArray} {x m : Nat} {sb rb : ByteArray} {y : Nat} {rad R : Int} (hx : x < n) (hy : y < m) (h0 : 0 ≤ rad) (hR : rad ≤ R) (h : sameB n sa ra x m sb rb y R = true) : sameB n sa ra x m sb rb y rad = true := by
  obtain ⟨f, fx, fm, finj, fs, fr, fon⟩ := same_out h
  have hadj : ∀ i j, i ∈ midN n ra x R → j ∈ midN n ra x R → near.adj m rb (f i) (f j) = near.adj n ra i j := fun i j hi hj => by
    unfold near.adj
    rw [fr i j hi hj, fr j i hj hi]
    have e : (f i != f j) = (i != j) := by
      by_cases e : i = j
      · subst e; exact (bne_self_eq_false _).trans (bne_self_eq_false _).symm
      · have : f i ≠ f j := fun e' => e (finj i j hi hj e')
        rw [bne_iff_ne.2 this, bne_iff_ne.2 e]
    rw [e]
  have go : ∀ (k z : Nat), (k : Int) ≤ R → z < n → RK (near.adj n ra) n x k z → RK (near.adj m rb) m y k (f z) := by
    intro k
    induction k with
    | zero =>
      intro z _ _ e
      have e : z = x := e
      subst e; exact fx
    | succ k ih =>
      intro z hk hz e
      have hz' : z ∈ midN n ra x R := (mem_mid hx (by omega)).2 ⟨hz, k + 1, by omega, e⟩
      obtain ⟨u, hu, e, a⟩ := e
      have hu' : u ∈ midN n ra x R := (mem_mid hx (by omega)).2 ⟨hu, k, by omega, e⟩
      exact ⟨f u, ((mem_mid hy (by omega)).1 (fm u hu')).1, ih u (by omega) hu e, by rw [hadj u z hu' hz']; exact a⟩
  have back : ∀ (k z : Nat), (k : Int) ≤ R → z < m → RK (near.adj m rb) m y k z → ∃ u, u ∈ midN n ra x R ∧ f u = z ∧ RK (near.adj n ra) n x k u := by
    intro k
    induction k with
    | zero =>
      intro z _ _ e
      have e : z = y := e
      subst e
      exact ⟨x, (mem_mid hx (by omega)).2 ⟨hx, 0, by omega, rfl⟩, fx, rfl⟩
    | succ k ih =>
      intro z hk hz e
      have hz' : z ∈ midN m rb y R := (mem_mid hy (by omega)).2 ⟨hz, k + 1, by omega, e⟩
      obtain ⟨v, hv, e, a⟩ := e
      obtain ⟨u, hu, rfl, e2⟩ := ih v (by omega) hv e
      obtain ⟨q, hq, rfl⟩ := fon z hz'
      rw [hadj u q hu hq] at a
      exact ⟨q, hq, rfl, u, ((mem_mid hx (by omega)).1 hu).1, e2, a⟩
  have sub : ∀ i, i ∈ midN n ra x rad → i ∈ midN n ra x R := fun i hi => by
    obtain ⟨h1, k, hk, e⟩ := (mem_mid hx h0).1 hi
    exact (mem_mid hx (by omega)).2 ⟨h1, k, by omega, e⟩
  refine same_of f hx fx (fun i j hi hj => finj i j (sub i hi) (sub j hj)) (fun i hi => fs i (sub i hi)) (fun i j hi hj => fr i j (sub i hi) (sub j hj)) fun z => ⟨fun hz => ?_, ?_⟩
  · obtain ⟨h1, k, hk, e⟩ := (mem_mid hy h0).1 hz
    obtain ⟨u, hu, rfl, e2⟩ := back k z (by omega) h1 e
    exact ⟨u, (mem_mid hx h0).2 ⟨((mem_mid hx (by omega)).1 hu).1, k, hk, e2⟩, rfl⟩
  · rintro ⟨u, hu, rfl⟩
    obtain ⟨h1, k, hk, e⟩ := (mem_mid hx h0).1 hu
    exact (mem_mid hy h0).2 ⟨((mem_mid hy (by omega)).1 (fm u (sub u hu))).1, k, hk, go k u (by omega) h1 e⟩
/-- as many elements -/
theorem same_len {n : Nat} {sa ra : ByteArray} {x m : Nat} {sb rb : ByteArray} {y : Nat} {rad : Int} (h : sameB n sa ra x m sb rb y rad = true) : (midN n ra x rad).length = (midN m rb y rad).length := (sameB_iff.1 h).1
/-- the middles are alike, and without a radius that is all -/
theorem same_mid {n : Nat} {sa ra : ByteArray} {x m : Nat} {sb rb : ByteArray} {y : Nat} {rad : Int} (h : sameB n sa ra x m sb rb y rad = true) : bitAt sb y = bitAt sa x ∧ bitAt rb (y * m + y) = bitAt ra (x * n + x) := by
  obtain ⟨f, rfl, _, _, fs, fr, _⟩ := same_out h
  have hx : x ∈ midN n ra x rad := List.mem_cons_self ..
  exact ⟨fs x hx, fr x x hx hx⟩
theorem mid_zero {n : Nat} {r : ByteArray} {x z : Nat} (hx : x < n) : z ∈ midN n r x 0 ↔ z = x := by
  rw [mem_mid hx (by omega)]
  constructor
  · rintro ⟨h1, k, hk, e⟩
    obtain rfl : k = 0 := by omega
    exact e
  · rintro rfl
    exact ⟨hx, 0, by omega, rfl⟩
theorem same_zero {n : Nat} {sa ra : ByteArray} {x m : Nat} {sb rb : ByteArray} {y : Nat} (hx : x < n) (hy : y < m) : sameB n sa ra x m sb rb y 0 = true ↔ bitAt sb y = bitAt sa x ∧ bitAt rb (y * m + y) = bitAt ra (x * n + x) := by
  refine ⟨same_mid, fun ⟨h1, h2⟩ => same_of (fun _ => y) hx rfl (fun i j hi hj _ => ?_) (fun i hi => ?_) (fun i j hi hj => ?_) fun z => ?_⟩
  · rw [(mid_zero hx).1 hi, (mid_zero hx).1 hj]
  · rw [(mid_zero hx).1 hi]; exact h1
  · rw [(mid_zero hx).1 hi, (mid_zero hx).1 hj]; exact h2
  · rw [mid_zero hy]
    exact ⟨fun e => ⟨x, (mid_zero hx).2 rfl, e.symm⟩, fun ⟨_, _, e⟩ => e.symm⟩
/-- elements of an orbit have balls of one shape -/
theorem same_iso {n : Nat} {s r : ByteArray} {o : List Nat} (h : Iso n s r s r o) {x : Nat} (hx : x < n) (rad : Int) : sameB n s r x n s r (o.getD x 0) rad = true :=
  Emb.same (f := fun i => o.getD i 0) { lt := h.lt, inj := h.inj, s := h.s, r := h.r, out := fun i z _ hz _ => h.onto hz } hx
end Go.Proofs.YtpcnoiigbmiejaaGreatDoor.narrow
