/- The sums, in the program and in the reference. -/
import Derived.Test.YtefneihlgclkbaaDoorRows
import Derived.Test.YtefneihlgclkbaaDoorBase
import Derived.Test.YtefneihlgclkbaaDoorMake
import Derived.Test.YtefneihlgclkbaaDoorFlow
import Derived.Test.YtefneihlgclkbaaDoorProd
namespace Go.Proofs.YtefneihlgclkbaaDoor.sum
set_option linter.unusedVariables false
set_option linter.unusedSimpArgs false
open Go.ChangeShapes Go.WideShapes Go.ChangeAt Go.RowKit
open Go.Proofs.YtefneihlgclkbaaDoor.lib Go.Proofs.YtefneihlgclkbaaDoor.st Go.Proofs.YtefneihlgclkbaaDoor.base Go.Proofs.YtefneihlgclkbaaDoor.make Go.Proofs.YtefneihlgclkbaaDoor.flow Go.Proofs.YtefneihlgclkbaaDoor.prod Go.Proofs.YtefneihlgclkbaaDoor.trim Go.Proofs.YtefneihlgclkbaaDoor.basic

def sumSet (n : Nat) (s t : ByteArray) (x : Nat) : Bool := if x < n then bitAt s x else bitAt t (x - n)
def sumRel (o : Bool) (n : Nat) (r : ByteArray) (m : Nat) (q : ByteArray) (x y : Nat) : Bool :=
  if x < n ∧ y < n then bitAt r (x * n + y) else if n ≤ x ∧ n ≤ y then bitAt q ((x - n) * m + (y - n)) else o && decide (x < n)
def okS (n : Int) (s r : ByteArray) (m : Int) (t q : ByteArray) : Bool := validB n s r && (validB m t q && decide (n + m ≤ 8))

theorem cell_below {w w' : World} {H C : Nat} {v : Value} (h : w.cell? ⟨H, 0, none⟩ = some v) (hb : Below C w w') (hC : H < C) : w'.cell? ⟨H, 0, none⟩ = some v := by
  rw [hb.cell (p := ⟨H, 0, none⟩) hC]; exact h
theorem cell_new (w : World) (v : Value) (E : TypeId) (H : Nat) (hH : w.heap.size = H) : (w.alloc (.cells #[v] E)).cell? ⟨H, 0, none⟩ = some v := by
  subst hH
  have h := heap_alloc_new w (.cells #[v] E)
  unfold World.cell?
  simp only []
  rw [h]
  rfl
theorem cell_lt {w : World} {H : Nat} {v : Value} (h : w.cell? ⟨H, 0, none⟩ = some v) : H < w.heap.size := World.block_lt_of_cell? w ⟨H, 0, none⟩ h

/-- the bits of a text of bits are the text -/
theorem bS_list (p : Nat → Bool) : ∀ k, (bS p k).data.toList = (List.range k).map fun i => if p i then (49 : UInt8) else 48
  | 0 => rfl
  | k + 1 => by
    rw [bS, ByteArray.data_append, Array.toList_append, bS_list p k, List.range_succ, List.map_append]
    rfl
theorem bits_mem {s : ByteArray} (h : bitsB s = true) (i : Nat) (hi : i < s.size) : s.data.toList.getD i 0 = if bitAt s i then 49 else 48 := by
  have h1 : s.data.toList.getD i 0 ∈ s.data.toList := by
    have hl : i < s.data.toList.length := by simpa using hi
    rw [List.getD_eq_getElem?_getD, List.getElem?_eq_getElem hl]
    exact List.getElem_mem hl
  unfold bitsB at h
  have h2 := List.all_eq_true.1 h _ h1
  unfold bitAt
  generalize s.data.toList.getD i 0 = b at h2 ⊢
  by_cases hb : b = 49
  · subst hb; rfl
  · have : b = 48 := by simpa [hb] using h2
    subst this; rfl
theorem bS_cat {n m : Nat} {s t : ByteArray} (hs : s.size = n) (ht : t.size = m) (bs : bitsB s = true) (bt : bitsB t = true) : bS (sumSet n s t) (n + m) = s ++ t := by
  apply ByteArray.ext
  apply Array.toList_inj.1
  rw [bS_list, ByteArray.data_append, Array.toList_append]
  have l1 : s.data.toList.length = n := by simpa using hs
  have l2 : t.data.toList.length = m := by simpa using ht
  apply List.ext_getElem
  · rw [List.length_map, List.length_range, List.length_append, l1, l2]
  · intro i h1 h2
    simp only [List.getElem_map, List.getElem_range]
    rw [List.getElem_append]
    by_cases h4 : i < n
    · have h3 : i < s.data.toList.length := by omega
      have := bits_mem bs i (by omega)
      rw [List.getD_eq_getElem?_getD, List.getElem?_eq_getElem h3] at this
      rw [dif_pos h3]
      simp only [sumSet, h4, if_true]
      exact this.symm
    · have h3 : ¬ i < s.data.toList.length := by omega
      have h5 : i < n + m := by rw [List.length_map, List.length_range] at h1; exact h1
      have h6 : i - n < t.data.toList.length := by omega
      have := bits_mem bt (i - n) (by omega)
      rw [List.getD_eq_getElem?_getD, List.getElem?_eq_getElem h6] at this
      rw [dif_neg h3]
      simp only [sumSet, h4, if_false]
      rw [← this]
      simp only [Option.getD_some, l1]

set_option maxHeartbeats 1600000 in
theorem clS1_any (n : Nat) (s r : ByteArray) (m : Nat) (t q : ByteArray) (Hn Ha Hb : Nat) (x : Nat) (w : World) (hc : w.cell? ⟨Hn, 0, none⟩ = some (.int .i64 n)) (ha : Box 24 w Ha n s r) (hbx : Box 24 w Hb m t q)
    (hn : n ≤ 8) (hm : m ≤ 8) (hs : s.size = n) (ht : t.size = m) (hx : x < n + m) :
    Calls Tryd.prog 105 #[.int .i64 x, .pointer (some ⟨Hn, 0, none⟩), .pointer (some ⟨Ha, 0, none⟩), .pointer (some ⟨Hb, 0, none⟩)] w fun e w' => e = .returned (.bool (sumSet n s t x)) ∧ Below w.heap.size w w' := by
  obtain ⟨a0, a1, a2⟩ := ha.c
  obtain ⟨b0, b1, b2⟩ := hbx.c
  clear ha hbx
  by_cases hlt : x < n
  · have HP : Hid (sumSet n s t x = bitAt s x) := by rw [Hid, sumSet, if_pos hlt]
    go_enter Tryd.func105, Tryd.ntmps105
    go_wp2_with fail
    refine (inSet_at n s r x x _ _ rfl rfl (by omega) (by omega)).mono ?_
    rintro e w1 ⟨rfl, hw⟩
    have HW := Lib.hid hw
    clear hw
    go_wp2
    go_ret
    exact ⟨by rw [HP.out]; rfl, HW.out⟩
  · have HP : Hid (sumSet n s t x = bitAt t (x - n)) := by rw [Hid, sumSet, if_neg hlt]
    go_enter Tryd.func105, Tryd.ntmps105
    go_wp2_with fail
    refine (inSet_at m t q ((x : Int) - (n : Int)) (x - n) _ _ (by omega) rfl (by omega) (by omega)).mono ?_
    rintro e w1 ⟨rfl, hw⟩
    have HW := Lib.hid hw
    clear hw
    go_wp2
    go_ret
    exact ⟨by rw [HP.out]; rfl, HW.out⟩

set_option maxHeartbeats 1600000 in
theorem clS2_any (o : Bool) (n : Nat) (s r : ByteArray) (m : Nat) (t q : ByteArray) (Hn Ha Hb Ho : Nat) (x y : Nat) (w : World) (hc : w.cell? ⟨Hn, 0, none⟩ = some (.int .i64 n)) (hco : w.cell? ⟨Ho, 0, none⟩ = some (.bool o)) (ha : Box 24 w Ha n s r) (hbx : Box 24 w Hb m t q)
    (hn : n ≤ 8) (hm : m ≤ 8) (hr : r.size = n * n) (hq : q.size = m * m) (hx : x < n + m) (hy : y < n + m) :
    Calls Tryd.prog 106 #[.int .i64 x, .int .i64 y, .pointer (some ⟨Hn, 0, none⟩), .pointer (some ⟨Ha, 0, none⟩), .pointer (some ⟨Hb, 0, none⟩), .pointer (some ⟨Ho, 0, none⟩)] w fun e w' => e = .returned (.bool (sumRel o n r m q x y)) ∧ Below w.heap.size w w' := by
  obtain ⟨a0, a1, a2⟩ := ha.c
  obtain ⟨b0, b1, b2⟩ := hbx.c
  clear ha hbx
  have HR := Lib.hid (show _ ∧ _ from ⟨hr, hq⟩)
  clear hr hq
  have BW : Hid (Below w.heap.size w w) := Below.refl _ _
  by_cases hlt : x < n
  · by_cases hly : y < n
    · have HP : Hid (sumRel o n r m q x y = bitAt r (x * n + y)) := by rw [Hid, sumRel, if_pos ⟨hlt, hly⟩]
      go_enter Tryd.func106, Tryd.ntmps106
      go_wp2_with fail
      refine (inRel_at n s r x y x y _ _ rfl rfl rfl hlt hly hn HR.out.1).mono ?_
      rintro e w1 ⟨rfl, hw⟩
      have HW := Lib.hid hw
      clear hw
      go_wp2
      go_ret
      exact ⟨by rw [HP.out]; rfl, HW.out⟩
    · have HP : Hid (sumRel o n r m q x y = (o && true)) := by rw [Hid, sumRel, if_neg (by omega), if_neg (by omega), decide_eq_true hlt]
      cases o with
      | false =>
        go_enter Tryd.func106, Tryd.ntmps106
        go_wp2
        go_ret
        exact ⟨by rw [HP.out]; rfl, BW.out⟩
      | true =>
        go_enter Tryd.func106, Tryd.ntmps106
        go_wp2
        go_ret
        exact ⟨by rw [HP.out]; rfl, BW.out⟩
  · by_cases hly : y < n
    · have HP : Hid (sumRel o n r m q x y = (o && false)) := by rw [Hid, sumRel, if_neg (by omega), if_neg (by omega), decide_eq_false hlt]
      cases o with
      | false =>
        go_enter Tryd.func106, Tryd.ntmps106
        go_wp2
        go_ret
        exact ⟨by rw [HP.out]; rfl, BW.out⟩
      | true =>
        go_enter Tryd.func106, Tryd.ntmps106
        go_wp2
        go_ret
        exact ⟨by rw [HP.out]; rfl, BW.out⟩
    · have HP : Hid (sumRel o n r m q x y = bitAt q ((x - n) * m + (y - n))) := by rw [Hid, sumRel, if_neg (by omega), if_pos (by omega)]
      go_enter Tryd.func106, Tryd.ntmps106
      go_wp2_with fail
      refine (inRel_at m t q ((x : Int) - (n : Int)) ((y : Int) - (n : Int)) (x - n) (y - n) _ _ (by omega) (by omega) rfl (by omega) (by omega) hm HR.out.2).mono ?_
      rintro e w1 ⟨rfl, hw⟩
      have HW := Lib.hid hw
      clear hw
      go_wp2
      go_ret
      exact ⟨by rw [HP.out]; rfl, HW.out⟩

def sn (n : Int) (s r : ByteArray) (m : Int) (t q : ByteArray) : Int := if okS n s r m t q = true then n + m else 0
def ss (n : Int) (s r : ByteArray) (m : Int) (t q : ByteArray) : ByteArray := if okS n s r m t q = true then s ++ t else ⟨#[]⟩
def sr (o : Bool) (n : Int) (s r : ByteArray) (m : Int) (t q : ByteArray) : ByteArray := if okS n s r m t q = true then bR (sumRel o n.toNat r m.toNat q) (n.toNat + m.toNat) (n.toNat + m.toNat) else ⟨#[]⟩
theorem s_no {n : Int} {s r : ByteArray} {m : Int} {t q : ByteArray} (o : Bool) (h : okS n s r m t q = false) : sn n s r m t q = 0 ∧ ss n s r m t q = ⟨#[]⟩ ∧ sr o n s r m t q = ⟨#[]⟩ := by simp [sn, ss, sr, h]
theorem s_yes {N M K : Nat} {s r t q : ByteArray} (o : Bool) (hK : K = N + M) (h : okS N s r M t q = true) : sn N s r M t q = (K : Int) ∧ ss N s r M t q = s ++ t ∧ sr o N s r M t q = bR (sumRel o N r M q) K K := by
  subst hK
  simp [sn, ss, sr, h]

set_option maxHeartbeats 1600000 in
set_option maxRecDepth 100000 in
theorem sumOf_any (o : Bool) (n : Int) (s r : ByteArray) (m : Int) (t q : ByteArray) (w : World) (hs : s.size ≤ 9223372036854775807) (hr : r.size ≤ 9223372036854775807) (ht : t.size ≤ 9223372036854775807) (hq : q.size ≤ 9223372036854775807) :
    Calls Tryd.prog 59 #[.agg #[.int .i64 n, .string s, .string r], .agg #[.int .i64 m, .string t, .string q], .bool o] w fun e w' => e = .returned (.tuple #[.agg #[.int .i64 (sn n s r m t q), .string (ss n s r m t q), .string (sr o n s r m t q)], .bool (okS n s r m t q)]) ∧ Below w.heap.size w w' := by
  have BA : Hid (Box 24 ((((w.alloc (.cells #[.int .i64 n, .string s, .string r] 24)).alloc (.cells #[.int .i64 m, .string t, .string q] 24)).alloc (.cells #[.bool o] 4)).alloc (.cells #[.int .i64 0, .string ⟨#[]⟩, .string ⟨#[]⟩] 24)) w.heap.size n s r) := (((Box.new 24 w w.heap.size rfl n s r).below ((Below.refl (w.heap.size + 1) _).alloc (by simp) _) (by omega)).below ((Below.refl (w.heap.size + 1) _).alloc (by simp) _) (by omega)).below ((Below.refl (w.heap.size + 1) _).alloc (by simp only [World.size_alloc]; omega) _) (by omega)
  have BB : Hid (Box 24 ((((w.alloc (.cells #[.int .i64 n, .string s, .string r] 24)).alloc (.cells #[.int .i64 m, .string t, .string q] 24)).alloc (.cells #[.bool o] 4)).alloc (.cells #[.int .i64 0, .string ⟨#[]⟩, .string ⟨#[]⟩] 24)) (w.heap.size + 1) m t q) := ((Box.new 24 _ (w.heap.size + 1) (by simp) m t q).below ((Below.refl (w.heap.size + 1 + 1) _).alloc (by simp) _) (by omega)).below ((Below.refl (w.heap.size + 1 + 1) _).alloc (by simp) _) (by omega)
  have CO : Hid (((((w.alloc (.cells #[.int .i64 n, .string s, .string r] 24)).alloc (.cells #[.int .i64 m, .string t, .string q] 24)).alloc (.cells #[.bool o] 4)).alloc (.cells #[.int .i64 0, .string ⟨#[]⟩, .string ⟨#[]⟩] 24)).cell? ⟨w.heap.size + 1 + 1, 0, none⟩ = some (.bool o)) := cell_below (cell_new _ (.bool o) 4 _ (by simp)) ((Below.refl (w.heap.size + 1 + 1 + 1) _).alloc (by simp) _) (by omega)
  have BZ : Hid (Box 24 ((((w.alloc (.cells #[.int .i64 n, .string s, .string r] 24)).alloc (.cells #[.int .i64 m, .string t, .string q] 24)).alloc (.cells #[.bool o] 4)).alloc (.cells #[.int .i64 0, .string ⟨#[]⟩, .string ⟨#[]⟩] 24)) (w.heap.size + 1 + 1 + 1) 0 ⟨#[]⟩ ⟨#[]⟩) := Box.new 24 _ (w.heap.size + 1 + 1 + 1) (by simp) 0 ⟨#[]⟩ ⟨#[]⟩
  obtain ⟨HB, hHB⟩ : ∃ HB, HB = w.heap.size + 1 + 1 + 1 + 1 := ⟨_, rfl⟩
  have HBS : Hid (((((w.alloc (.cells #[.int .i64 n, .string s, .string r] 24)).alloc (.cells #[.int .i64 m, .string t, .string q] 24)).alloc (.cells #[.bool o] 4)).alloc (.cells #[.int .i64 0, .string ⟨#[]⟩, .string ⟨#[]⟩] 24)).heap.size = HB) := by rw [hHB]; simp [Hid]
  have AW : Hid (Below w.heap.size w ((((w.alloc (.cells #[.int .i64 n, .string s, .string r] 24)).alloc (.cells #[.int .i64 m, .string t, .string q] 24)).alloc (.cells #[.bool o] 4)).alloc (.cells #[.int .i64 0, .string ⟨#[]⟩, .string ⟨#[]⟩] 24))) := ((((Below.refl _ _).alloc (Nat.le_refl _) _).alloc (by simp) _).alloc (by simp only [World.size_alloc]; omega) _).alloc (by simp only [World.size_alloc]; omega) _
  have HHB := Lib.hid hHB
  clear hHB
  have HZ := Lib.hid (show _ ∧ _ ∧ _ ∧ _ from ⟨hs, hr, ht, hq⟩)
  clear hs hr ht hq
  go_enter Tryd.func59, Tryd.ntmps59
  go_wp2_with fail
  refine (isStructure_any n s r _ HZ.out.1 HZ.out.2.1).mono ?_
  rintro e w1 ⟨rfl, hw⟩
  have HX : Hid (Below HB ((((w.alloc (.cells #[.int .i64 n, .string s, .string r] 24)).alloc (.cells #[.int .i64 m, .string t, .string q] 24)).alloc (.cells #[.bool o] 4)).alloc (.cells #[.int .i64 0, .string ⟨#[]⟩, .string ⟨#[]⟩] 24)) w1) := hw.mono (by have := HBS.out; omega)
  clear hw
  obtain ⟨a0, a1, a2⟩ := (BA.out.below HX.out (by have := HHB.out; omega)).c
  obtain ⟨b0, b1, b2⟩ := (BB.out.below HX.out (by have := HHB.out; omega)).c
  obtain ⟨z0, z1, z2⟩ := (BZ.out.below HX.out (by have := HHB.out; omega)).c
  have co := cell_below CO.out HX.out (by have := HHB.out; omega)
  have f0 := (BZ.out.below HX.out (by have := HHB.out; omega)).free 0
  have f1 := (BZ.out.below HX.out (by have := HHB.out; omega)).free 1
  have f2 := (BZ.out.below HX.out (by have := HHB.out; omega)).free 2
  cases hv : validB n s r with
  | false =>
    have HE := Lib.hid (s_no o (show okS n s r m t q = false by rw [okS, hv]; rfl))
    have HO : Hid (okS n s r m t q = false) := by rw [Hid, okS, hv]; rfl
    clear hv
    have BE := (((BZ.out.below HX.out (by have := HHB.out; omega)).set0 0).set1 ⟨#[]⟩).set2 ⟨#[]⟩
    obtain ⟨e0, e1, e2⟩ := BE.c
    have HF := Lib.hid (show _ ∧ _ ∧ _ from ⟨e0, e1, e2⟩)
    clear e0 e1 e2 BE
    have R := Lib.hid ((((AW.out.trans (HX.out.mono (by have := HHB.out; omega))).setCell (p := ⟨w.heap.size + 1 + 1 + 1, 0, none⟩) (by simp; omega) (.int .i64 0)).setCell (p := ⟨w.heap.size + 1 + 1 + 1, 1, none⟩) (by simp; omega) (.string ⟨#[]⟩)).setCell (p := ⟨w.heap.size + 1 + 1 + 1, 2, none⟩) (by simp; omega) (.string ⟨#[]⟩))
    go_wp2
    exact bodyPost_ret (v := .tuple #[.agg #[.int .i64 0, .string ⟨#[]⟩, .string ⟨#[]⟩], .bool false]) (by simp [results, Tryd.results59, go_sem, HF.out.1, HF.out.2.1, HF.out.2.2]) rfl ⟨by rw [HE.out.1, HE.out.2.1, HE.out.2.2, HO.out], R.out⟩
  | true =>
    have HV1 := Lib.hid hv
    obtain ⟨N, rfl, hN1, hN8, hsN, hrN⟩ := valid_size hv
    have HN := Lib.hid (show _ ∧ _ ∧ _ ∧ _ from ⟨hN1, hN8, hsN, hrN⟩)
    clear hv hsN hrN
    go_wp2_with fail
    refine (isStructure_any m t q _ HZ.out.2.2.1 HZ.out.2.2.2).mono ?_
    rintro e w2 ⟨rfl, hw⟩
    have HX2 : Hid (Below HB ((((w.alloc (.cells #[.int .i64 N, .string s, .string r] 24)).alloc (.cells #[.int .i64 m, .string t, .string q] 24)).alloc (.cells #[.bool o] 4)).alloc (.cells #[.int .i64 0, .string ⟨#[]⟩, .string ⟨#[]⟩] 24)) w2) := HX.out.trans (hw.mono (by have := HBS.out; have := HX.out.size; omega))
    clear hw HX a0 a1 a2 b0 b1 b2 z0 z1 z2 f0 f1 f2 co
    have HX := HX2
    clear HX2
    obtain ⟨a0, a1, a2⟩ := (BA.out.below HX.out (by have := HHB.out; omega)).c
    obtain ⟨b0, b1, b2⟩ := (BB.out.below HX.out (by have := HHB.out; omega)).c
    obtain ⟨z0, z1, z2⟩ := (BZ.out.below HX.out (by have := HHB.out; omega)).c
    have co := cell_below CO.out HX.out (by have := HHB.out; omega)
    have f0 := (BZ.out.below HX.out (by have := HHB.out; omega)).free 0
    have f1 := (BZ.out.below HX.out (by have := HHB.out; omega)).free 1
    have f2 := (BZ.out.below HX.out (by have := HHB.out; omega)).free 2
    cases hv : validB m t q with
    | false =>
      have HE := Lib.hid (s_no o (show okS N s r m t q = false by rw [okS, hv]; simp))
      have HO : Hid (okS N s r m t q = false) := by rw [Hid, okS, hv]; simp
      clear hv
      have BE := (((BZ.out.below HX.out (by have := HHB.out; omega)).set0 0).set1 ⟨#[]⟩).set2 ⟨#[]⟩
      obtain ⟨e0, e1, e2⟩ := BE.c
      have HF := Lib.hid (show _ ∧ _ ∧ _ from ⟨e0, e1, e2⟩)
      clear e0 e1 e2 BE
      have R := Lib.hid ((((AW.out.trans (HX.out.mono (by have := HHB.out; omega))).setCell (p := ⟨w.heap.size + 1 + 1 + 1, 0, none⟩) (by simp; omega) (.int .i64 0)).setCell (p := ⟨w.heap.size + 1 + 1 + 1, 1, none⟩) (by simp; omega) (.string ⟨#[]⟩)).setCell (p := ⟨w.heap.size + 1 + 1 + 1, 2, none⟩) (by simp; omega) (.string ⟨#[]⟩))
      go_wp2
      exact bodyPost_ret (v := .tuple #[.agg #[.int .i64 0, .string ⟨#[]⟩, .string ⟨#[]⟩], .bool false]) (by simp [results, Tryd.results59, go_sem, HF.out.1, HF.out.2.1, HF.out.2.2]) rfl ⟨by rw [HE.out.1, HE.out.2.1, HE.out.2.2, HO.out], R.out⟩
    | true =>
      have HV2 := Lib.hid hv
      obtain ⟨M, rfl, hM1, hM8, hsM, hrM⟩ := valid_size hv
      have HM := Lib.hid (show _ ∧ _ ∧ _ ∧ _ from ⟨hM1, hM8, hsM, hrM⟩)
      clear hv hsM hrM
      by_cases hk : (N : Int) + (M : Int) ≤ 8
      · have HO : Hid (okS N s r M t q = true) := by rw [Hid, okS, HV1.out, HV2.out]; simpa using hk
        obtain ⟨K, hK⟩ : ∃ K, K = N + M := ⟨_, rfl⟩
        have HE := Lib.hid (s_yes o hK HO.out)
        have hk8 : K ≤ 8 := by omega
        have HK8 := Lib.hid hk8
        have HKK := Lib.hid hK
        clear hk8 hK
        have HBIT := Lib.hid (bS_cat (s := s) (t := t) HN.out.2.2.1 HM.out.2.2.1 (validB_iff.1 HV1.out).2.2.2.1 (validB_iff.1 HV2.out).2.2.2.1)
        have HXN : Hid (Below w2.heap.size w2 (w2.alloc (.cells #[.int .i64 N] 3))) := (Below.refl _ _).alloc (Nat.le_refl _) _
        have BAX := Lib.hid ((BA.out.below HX.out (by have := HHB.out; omega)).below HXN.out (by have := HX.out.size; have := HBS.out; have := HHB.out; omega))
        have BBX := Lib.hid ((BB.out.below HX.out (by have := HHB.out; omega)).below HXN.out (by have := HX.out.size; have := HBS.out; have := HHB.out; omega))
        have BZX := Lib.hid ((BZ.out.below HX.out (by have := HHB.out; omega)).below HXN.out (by have := HX.out.size; have := HBS.out; have := HHB.out; omega))
        have COX := Lib.hid (cell_below (cell_below CO.out HX.out (by have := HHB.out; omega)) HXN.out (by have := HX.out.size; have := HBS.out; have := HHB.out; omega))
        have CNX : Hid ((w2.alloc (.cells #[.int .i64 N] 3)).cell? ⟨w2.heap.size, 0, none⟩ = some (.int .i64 N)) := cell_new _ _ _ _ rfl
        obtain ⟨a3, a4, a5⟩ := BAX.out.c
        obtain ⟨b3, b4, b5⟩ := BBX.out.c
        have cn := CNX.out
        go_wp2_with fail
        clear a3 a4 a5 b3 b4 b5 cn
        refine (make_at K ((N : Int) + (M : Int)) (by rw [HKK.out]; omega) HK8.out _ _ _ _ (sumSet N s t) (sumRel o N r M q) _ (enters_of Tryd.func105 (by kernel_rfl) rfl) (enters_of Tryd.func106 (by kernel_rfl) rfl) ?_ ?_).mono ?_
        · intro W hW x hx
          exact clS1_any N s r M t q w2.heap.size w.heap.size (w.heap.size + 1) x W (cell_below CNX.out hW (cell_lt CNX.out)) (BAX.out.below hW BAX.out.lt) (BBX.out.below hW BBX.out.lt) hN8 hM8 HN.out.2.2.1 HM.out.2.2.1 (by have := HKK.out; omega)
        · intro W hW x y hx hy
          exact clS2_any o N s r M t q w2.heap.size w.heap.size (w.heap.size + 1) (w.heap.size + 1 + 1) x y W (cell_below CNX.out hW (cell_lt CNX.out)) (cell_below COX.out hW (cell_lt COX.out)) (BAX.out.below hW BAX.out.lt) (BBX.out.below hW BBX.out.lt) hN8 hM8 HN.out.2.2.2 HM.out.2.2.2 (by have := HKK.out; omega) (by have := HKK.out; omega)
        rintro e w3 ⟨rfl, hw⟩
        have HX3 : Hid (Below HB ((((w.alloc (.cells #[.int .i64 N, .string s, .string r] 24)).alloc (.cells #[.int .i64 M, .string t, .string q] 24)).alloc (.cells #[.bool o] 4)).alloc (.cells #[.int .i64 0, .string ⟨#[]⟩, .string ⟨#[]⟩] 24)) w3) := (HX.out.trans (HXN.out.mono (by have := HBS.out; have := HX.out.size; omega))).trans (hw.mono (by have := HBS.out; have := HX.out.size; simp only [World.size_alloc]; omega))
        have BZ3 := Lib.hid (BZX.out.below hw BZX.out.lt)
        clear hw HX a0 a1 a2 b0 b1 b2 z0 z1 z2 f0 f1 f2 co
        obtain ⟨z0, z1, z2⟩ := BZ3.out.c
        have f0 := BZ3.out.free 0
        have f1 := BZ3.out.free 1
        have f2 := BZ3.out.free 2
        have BE := ((BZ3.out.set0 (K : Int)).set1 (bS (sumSet N s t) K)).set2 (bR (sumRel o N r M q) K K)
        obtain ⟨e0, e1, e2⟩ := BE.c
        have HF := Lib.hid (show _ ∧ _ ∧ _ from ⟨e0, e1, e2⟩)
        clear e0 e1 e2 BE
        have R := Lib.hid ((((AW.out.trans (HX3.out.mono (by have := HHB.out; omega))).setCell (p := ⟨w.heap.size + 1 + 1 + 1, 0, none⟩) (by simp; omega) (.int .i64 (K : Int))).setCell (p := ⟨w.heap.size + 1 + 1 + 1, 1, none⟩) (by simp; omega) (.string (bS (sumSet N s t) K))).setCell (p := ⟨w.heap.size + 1 + 1 + 1, 2, none⟩) (by simp; omega) (.string (bR (sumRel o N r M q) K K)))
        go_wp2
        exact bodyPost_ret (v := .tuple #[.agg #[.int .i64 (K : Int), .string (bS (sumSet N s t) K), .string (bR (sumRel o N r M q) K K)], .bool true]) (by simp [results, Tryd.results59, go_sem, HF.out.1, HF.out.2.1, HF.out.2.2]) rfl ⟨by rw [HE.out.1, HE.out.2.1, HE.out.2.2, HO.out, ← HBIT.out, HKK.out], R.out⟩
      · have HE := Lib.hid (s_no o (show okS N s r M t q = false by rw [okS]; simp; intros; omega))
        have HO : Hid (okS N s r M t q = false) := by rw [Hid, okS]; simp; intros; omega
        have BE := (((BZ.out.below HX.out (by have := HHB.out; omega)).set0 0).set1 ⟨#[]⟩).set2 ⟨#[]⟩
        obtain ⟨e0, e1, e2⟩ := BE.c
        have HF := Lib.hid (show _ ∧ _ ∧ _ from ⟨e0, e1, e2⟩)
        clear e0 e1 e2 BE
        have R := Lib.hid ((((AW.out.trans (HX.out.mono (by have := HHB.out; omega))).setCell (p := ⟨w.heap.size + 1 + 1 + 1, 0, none⟩) (by simp; omega) (.int .i64 0)).setCell (p := ⟨w.heap.size + 1 + 1 + 1, 1, none⟩) (by simp; omega) (.string ⟨#[]⟩)).setCell (p := ⟨w.heap.size + 1 + 1 + 1, 2, none⟩) (by simp; omega) (.string ⟨#[]⟩))
        go_wp2
        exact bodyPost_ret (v := .tuple #[.agg #[.int .i64 0, .string ⟨#[]⟩, .string ⟨#[]⟩], .bool false]) (by simp [results, Tryd.results59, go_sem, HF.out.1, HF.out.2.1, HF.out.2.2]) rfl ⟨by rw [HE.out.1, HE.out.2.1, HE.out.2.2, HO.out], R.out⟩

set_option maxHeartbeats 3200000 in
set_option maxRecDepth 100000 in
theorem l10Sum_any (o : Bool) (N : Nat) (s r : ByteArray) (M : Nat) (t q : ByteArray) (K : Nat) (w : World) (hN : N ≤ 8) (hM : M ≤ 8) (hK : K = N + M) (hK8 : K ≤ 8) (hs : s.size = N) (hr : r.size = N * N) (ht : t.size = M) (hq : q.size = M * M) :
    Calls Tryd.prog 61 #[.agg #[.int .i64 N, .string s, .string r], .agg #[.int .i64 M, .string t, .string q], .bool o] w fun e w' => e = .returned (.agg #[.int .i64 K, .string (s ++ t), .string (bR (sumRel o N r M q) K K)]) ∧ Below w.heap.size w w' := by
  have hadd0 : ∀ W, (Op.stringOp .add s t).run Tryd.prog W = .ok (.string (s ++ t)) W := fun W => run_string_add_sum W _ _ (by omega)
  have BAL : Hid (Box 24 (((w.alloc (.cells #[.int .i64 N, .string s, .string r] 24)).alloc (.cells #[.int .i64 M, .string t, .string q] 24)).alloc (.cells #[.int .i64 0, .string ⟨#[]⟩, .string ⟨#[]⟩] 24)) w.heap.size N s r) := ((Box.new 24 w w.heap.size rfl N s r).below ((Below.refl (w.heap.size + 1) _).alloc (by simp) _) (by omega)).below ((Below.refl (w.heap.size + 1) _).alloc (by simp) _) (by omega)
  have BBL : Hid (Box 24 (((w.alloc (.cells #[.int .i64 N, .string s, .string r] 24)).alloc (.cells #[.int .i64 M, .string t, .string q] 24)).alloc (.cells #[.int .i64 0, .string ⟨#[]⟩, .string ⟨#[]⟩] 24)) (w.heap.size + 1) M t q) := (Box.new 24 _ (w.heap.size + 1) (by simp) M t q).below ((Below.refl (w.heap.size + 1 + 1) _).alloc (by simp) _) (by omega)
  have BZL : Hid (Box 24 (((w.alloc (.cells #[.int .i64 N, .string s, .string r] 24)).alloc (.cells #[.int .i64 M, .string t, .string q] 24)).alloc (.cells #[.int .i64 0, .string ⟨#[]⟩, .string ⟨#[]⟩] 24)) (w.heap.size + 1 + 1) 0 ⟨#[]⟩ ⟨#[]⟩) := Box.new 24 _ (w.heap.size + 1 + 1) (by simp) 0 ⟨#[]⟩ ⟨#[]⟩
  have BO : Hid (Box 24 ((((w.alloc (.cells #[.int .i64 N, .string s, .string r] 24)).alloc (.cells #[.int .i64 M, .string t, .string q] 24)).alloc (.cells #[.int .i64 0, .string ⟨#[]⟩, .string ⟨#[]⟩] 24)).alloc (.cells #[.int .i64 ((N : Int) + (M : Int)), .string (s ++ t), .string ⟨#[]⟩] 24)) (w.heap.size + 1 + 1 + 1) ((N : Int) + (M : Int)) (s ++ t) (bR (sumRel o N r M q) K 0)) := Box.new 24 _ (w.heap.size + 1 + 1 + 1) (by simp) _ _ _
  have hb0 : Hid (Below (((w.alloc (.cells #[.int .i64 N, .string s, .string r] 24)).alloc (.cells #[.int .i64 M, .string t, .string q] 24)).alloc (.cells #[.int .i64 0, .string ⟨#[]⟩, .string ⟨#[]⟩] 24)).heap.size (((w.alloc (.cells #[.int .i64 N, .string s, .string r] 24)).alloc (.cells #[.int .i64 M, .string t, .string q] 24)).alloc (.cells #[.int .i64 0, .string ⟨#[]⟩, .string ⟨#[]⟩] 24)) ((((w.alloc (.cells #[.int .i64 N, .string s, .string r] 24)).alloc (.cells #[.int .i64 M, .string t, .string q] 24)).alloc (.cells #[.int .i64 0, .string ⟨#[]⟩, .string ⟨#[]⟩] 24)).alloc (.cells #[.int .i64 ((N : Int) + (M : Int)), .string (s ++ t), .string ⟨#[]⟩] 24))) := (Below.refl _ _).alloc (Nat.le_refl _) _
  have AW : Hid (Below w.heap.size w (((w.alloc (.cells #[.int .i64 N, .string s, .string r] 24)).alloc (.cells #[.int .i64 M, .string t, .string q] 24)).alloc (.cells #[.int .i64 0, .string ⟨#[]⟩, .string ⟨#[]⟩] 24))) := (((Below.refl _ _).alloc (Nat.le_refl _) _).alloc (by simp) _).alloc (by simp only [World.size_alloc]; omega) _
  have HKI : Hid ((N : Int) + (M : Int) = (K : Int)) := by unfold Hid; omega
  have hKa : K ≤ N + M := by omega
  have hKb : N + M ≤ K := by omega
  clear hK
  have HR := Lib.hid (show _ ∧ _ ∧ _ ∧ _ from ⟨hs, hr, ht, hq⟩)
  clear hs hr ht hq
  go_enter Tryd.func61, Tryd.ntmps61
  go_wp2
  go_loopw [8] (fun i wr => ∃ k : Nat, k ≤ K ∧ i = .int .i64 k ∧ Box 24 wr (w.heap.size + 1 + 1 + 1) ((N : Int) + (M : Int)) (s ++ t) (bR (sumRel o N r M q) K k) ∧ Below (((w.alloc (.cells #[.int .i64 N, .string s, .string r] 24)).alloc (.cells #[.int .i64 M, .string t, .string q] 24)).alloc (.cells #[.int .i64 0, .string ⟨#[]⟩, .string ⟨#[]⟩] 24)).heap.size (((w.alloc (.cells #[.int .i64 N, .string s, .string r] 24)).alloc (.cells #[.int .i64 M, .string t, .string q] 24)).alloc (.cells #[.int .i64 0, .string ⟨#[]⟩, .string ⟨#[]⟩] 24)) wr) (fun i _ => K - (intOf i).toNat)
  case atStart => exact ⟨0, Nat.zero_le _, rfl, BO.out, hb0.out⟩
  case round =>
    obtain ⟨k, hk, rfl, hbox, hnx⟩ := hrel
    have HO := Lib.hid hbox
    have HXO := Lib.hid hnx
    clear hbox hnx
    obtain ⟨o0, o1, o2⟩ := HO.out.c
    by_cases hlt : k < K
    · have HKB : Hid (k * K ≤ 64) := Nat.mul_le_mul (show k ≤ 8 by omega) (show K ≤ 8 by omega)
      have hkI : (k : Int) < (N : Int) + (M : Int) := by omega
      have HO2 := Lib.hid HO.out
      have HXO2 := Lib.hid HXO.out
      go_wp2
      clear o0 o1 o2 HO HXO
      go_loopw [9, 10] (fun i _ wr => ∃ j : Nat, j ≤ K ∧ i = .int .i64 j ∧ Box 24 wr (w.heap.size + 1 + 1 + 1) ((N : Int) + (M : Int)) (s ++ t) (bRow (bR (sumRel o N r M q) K k) (sumRel o N r M q k) j) ∧ Below (((w.alloc (.cells #[.int .i64 N, .string s, .string r] 24)).alloc (.cells #[.int .i64 M, .string t, .string q] 24)).alloc (.cells #[.int .i64 0, .string ⟨#[]⟩, .string ⟨#[]⟩] 24)).heap.size (((w.alloc (.cells #[.int .i64 N, .string s, .string r] 24)).alloc (.cells #[.int .i64 M, .string t, .string q] 24)).alloc (.cells #[.int .i64 0, .string ⟨#[]⟩, .string ⟨#[]⟩] 24)) wr) (fun i _ _ => K - (intOf i).toNat)
      case atStart => exact ⟨0, Nat.zero_le _, rfl, HO2.out, HXO2.out⟩
      case round =>
        obtain ⟨j, hj, rfl, hbox, hnx⟩ := hrel
        have HO := Lib.hid hbox
        have HXO := Lib.hid hnx
        clear hbox hnx
        obtain ⟨a0, a1, a2⟩ := (BAL.out.below HXO.out BAL.out.lt).c
        obtain ⟨b0, b1, b2⟩ := (BBL.out.below HXO.out BBL.out.lt).c
        obtain ⟨o0, o1, o2⟩ := HO.out.c
        by_cases hlj : j < K
        · have hjI : (j : Int) < (N : Int) + (M : Int) := by omega
          cases o with
          | false =>
            by_cases hx : k < N
            · by_cases hy : j < N
              · have HP : Hid (sumRel false N r M q k j = bitAt r (k * N + j)) := by rw [Hid, sumRel, if_pos ⟨hx, hy⟩]
                go_wp2_with fail
                refine (l1Rel_at N s r k j k j _ _ rfl rfl rfl hx hy hN HR.out.2.1).mono ?_
                rintro e w1 ⟨rfl, hw⟩
                have HXO1 : Hid (Below (((w.alloc (.cells #[.int .i64 N, .string s, .string r] 24)).alloc (.cells #[.int .i64 M, .string t, .string q] 24)).alloc (.cells #[.int .i64 0, .string ⟨#[]⟩, .string ⟨#[]⟩] 24)).heap.size (((w.alloc (.cells #[.int .i64 N, .string s, .string r] 24)).alloc (.cells #[.int .i64 M, .string t, .string q] 24)).alloc (.cells #[.int .i64 0, .string ⟨#[]⟩, .string ⟨#[]⟩] 24)) w1) := HXO.out.trans (hw.mono HXO.out.size)
                have HO1 := Lib.hid (HO.out.below hw HO.out.lt)
                clear a0 a1 a2 b0 b1 b2 o0 o1 o2 hw HXO HO
                have HXO := HXO1
                have HO := HO1
                clear HXO1 HO1
                obtain ⟨a0, a1, a2⟩ := (BAL.out.below HXO.out BAL.out.lt).c
                obtain ⟨b0, b1, b2⟩ := (BBL.out.below HXO.out BBL.out.lt).c
                obtain ⟨o0, o1, o2⟩ := HO.out.c
                have co : ∀ X : Wd (fun W => Hid (Below w1.heap.size w1 W)), X.w.cell? ⟨w.heap.size + 1 + 1 + 1, 0, none⟩ = some (.int .i64 ((N : Int) + (M : Int))) ∧ X.w.cell? ⟨w.heap.size + 1 + 1 + 1, 1, none⟩ = some (.string (s ++ t)) ∧ X.w.cell? ⟨w.heap.size + 1 + 1 + 1, 2, none⟩ = some (.string (bRow (bR (sumRel false N r M q) K k) (sumRel false N r M q k) j)) := fun X => (HO.out.below X.ok.out HO.out.lt).c
                have co0 := fun X => (co X).1
                have co1 := fun X => (co X).2.1
                have co2 := fun X => (co X).2.2
                clear co
                have hne : Nonempty (Wd (fun W => Hid (Below w1.heap.size w1 W))) := ⟨⟨w1, Lib.hid (Below.refl _ _)⟩⟩
                have hadd : ∀ W, (Op.stringOp .add (bRow (bR (sumRel false N r M q) K k) (sumRel false N r M q k) j) (bit1 (bitAt r (k * N + j)))).run Tryd.prog W = .ok (.string (bRow (bR (sumRel false N r M q) K k) (sumRel false N r M q k) (j + 1))) W := fun W => (run_string_add_sum W _ _ (by rw [bRow_size, bR_size, bit1_size]; have := HKB.out; omega)).trans (by rw [bRow, HP.out])
                go_wp2_with fail
                refine flow_last (S := (fun W => Hid (Below w1.heap.size w1 W))) (by kernel_rfl) (by kernel_rfl) (by kernel_rfl) (by kernel_rfl) (by kernel_rfl) (Lib.hid (Below.refl _ _).drew) ?_
                simp only [List.dropLast_cons_cons, List.dropLast_singleton, List.getLast?_cons_cons, List.getLast?_singleton, Option.toList_some]
                repeat (go_big_quiet_step (first | (go_at_call 53; with_reducible refine (l1Bit_at _ _).mono ?_; rintro e W ⟨rfl, rfl⟩; exact ⟨rfl, _, rfl⟩)))
                refine wpQuiet_nil ?_
                rintro _ ⟨X, rfl⟩
                have HXX := Lib.hid X.ok.out
                have BX2 := HO.out.below HXX.out HO.out.lt
                have f2 := BX2.free 2
                have R := Lib.hid (show _ ∧ _ from ⟨BX2.set2 (bRow (bR (sumRel false N r M q) K k) (sumRel false N r M q k) (j + 1)), (HXO.out.trans (HXX.out.mono HXO.out.size)).setCell (p := ⟨w.heap.size + 1 + 1 + 1, 2, none⟩) (by simp) (.string (bRow (bR (sumRel false N r M q) K k) (sumRel false N r M q k) (j + 1)))⟩)
                go_wp2_with fail
                go_roundw
                case rel =>
                  exact ⟨j + 1, by omega, by go_num, R.out.1, R.out.2⟩
                case measure => simp [intOf]; omega
              · have HP : Hid (sumRel false N r M q k j = false) := by rw [Hid, sumRel, if_neg (by omega), if_neg (by omega), decide_eq_true hx]; rfl
                have hNj : N ≤ j := by omega
                have co : ∀ X : Wd (fun W => Hid (Below wr.heap.size wr W)), X.w.cell? ⟨w.heap.size + 1 + 1 + 1, 0, none⟩ = some (.int .i64 ((N : Int) + (M : Int))) ∧ X.w.cell? ⟨w.heap.size + 1 + 1 + 1, 1, none⟩ = some (.string (s ++ t)) ∧ X.w.cell? ⟨w.heap.size + 1 + 1 + 1, 2, none⟩ = some (.string (bRow (bR (sumRel false N r M q) K k) (sumRel false N r M q k) j)) := fun X => (HO.out.below X.ok.out HO.out.lt).c
                have co0 := fun X => (co X).1
                have co1 := fun X => (co X).2.1
                have co2 := fun X => (co X).2.2
                clear co
                have hne : Nonempty (Wd (fun W => Hid (Below wr.heap.size wr W))) := ⟨⟨wr, Lib.hid (Below.refl _ _)⟩⟩
                have hadd : ∀ W, (Op.stringOp .add (bRow (bR (sumRel false N r M q) K k) (sumRel false N r M q k) j) (bit1 false)).run Tryd.prog W = .ok (.string (bRow (bR (sumRel false N r M q) K k) (sumRel false N r M q k) (j + 1))) W := fun W => (run_string_add_sum W _ _ (by rw [bRow_size, bR_size, bit1_size]; have := HKB.out; omega)).trans (by rw [bRow, HP.out])
                go_wp2_with fail
                refine flow_last (S := (fun W => Hid (Below wr.heap.size wr W))) (by kernel_rfl) (by kernel_rfl) (by kernel_rfl) (by kernel_rfl) (by kernel_rfl) (Lib.hid (Below.refl _ _).drew) ?_
                simp only [List.dropLast_cons_cons, List.dropLast_singleton, List.getLast?_cons_cons, List.getLast?_singleton, Option.toList_some]
                repeat (go_big_quiet_step (first | (go_at_call 53; with_reducible refine (l1Bit_at _ _).mono ?_; rintro e W ⟨rfl, rfl⟩; exact ⟨rfl, _, rfl⟩)))
                refine wpQuiet_nil ?_
                rintro _ ⟨X, rfl⟩
                have HXX := Lib.hid X.ok.out
                have BX2 := HO.out.below HXX.out HO.out.lt
                have f2 := BX2.free 2
                have R := Lib.hid (show _ ∧ _ from ⟨BX2.set2 (bRow (bR (sumRel false N r M q) K k) (sumRel false N r M q k) (j + 1)), (HXO.out.trans (HXX.out.mono HXO.out.size)).setCell (p := ⟨w.heap.size + 1 + 1 + 1, 2, none⟩) (by simp) (.string (bRow (bR (sumRel false N r M q) K k) (sumRel false N r M q k) (j + 1)))⟩)
                go_wp2_with fail
                go_roundw
                case rel =>
                  exact ⟨j + 1, by omega, by go_num, R.out.1, R.out.2⟩
                case measure => simp [intOf]; omega
            · by_cases hy : j < N
              · have HP : Hid (sumRel false N r M q k j = false) := by rw [Hid, sumRel, if_neg (by omega), if_neg (by omega), decide_eq_false hx]; rfl
                have co : ∀ X : Wd (fun W => Hid (Below wr.heap.size wr W)), X.w.cell? ⟨w.heap.size + 1 + 1 + 1, 0, none⟩ = some (.int .i64 ((N : Int) + (M : Int))) ∧ X.w.cell? ⟨w.heap.size + 1 + 1 + 1, 1, none⟩ = some (.string (s ++ t)) ∧ X.w.cell? ⟨w.heap.size + 1 + 1 + 1, 2, none⟩ = some (.string (bRow (bR (sumRel false N r M q) K k) (sumRel false N r M q k) j)) := fun X => (HO.out.below X.ok.out HO.out.lt).c
                have co0 := fun X => (co X).1
                have co1 := fun X => (co X).2.1
                have co2 := fun X => (co X).2.2
                clear co
                have hne : Nonempty (Wd (fun W => Hid (Below wr.heap.size wr W))) := ⟨⟨wr, Lib.hid (Below.refl _ _)⟩⟩
                have hadd : ∀ W, (Op.stringOp .add (bRow (bR (sumRel false N r M q) K k) (sumRel false N r M q k) j) (bit1 false)).run Tryd.prog W = .ok (.string (bRow (bR (sumRel false N r M q) K k) (sumRel false N r M q k) (j + 1))) W := fun W => (run_string_add_sum W _ _ (by rw [bRow_size, bR_size, bit1_size]; have := HKB.out; omega)).trans (by rw [bRow, HP.out])
                go_wp2_with fail
                refine flow_last (S := (fun W => Hid (Below wr.heap.size wr W))) (by kernel_rfl) (by kernel_rfl) (by kernel_rfl) (by kernel_rfl) (by kernel_rfl) (Lib.hid (Below.refl _ _).drew) ?_
                simp only [List.dropLast_cons_cons, List.dropLast_singleton, List.getLast?_cons_cons, List.getLast?_singleton, Option.toList_some]
                repeat (go_big_quiet_step (first | (go_at_call 53; with_reducible refine (l1Bit_at _ _).mono ?_; rintro e W ⟨rfl, rfl⟩; exact ⟨rfl, _, rfl⟩)))
                refine wpQuiet_nil ?_
                rintro _ ⟨X, rfl⟩
                have HXX := Lib.hid X.ok.out
                have BX2 := HO.out.below HXX.out HO.out.lt
                have f2 := BX2.free 2
                have R := Lib.hid (show _ ∧ _ from ⟨BX2.set2 (bRow (bR (sumRel false N r M q) K k) (sumRel false N r M q k) (j + 1)), (HXO.out.trans (HXX.out.mono HXO.out.size)).setCell (p := ⟨w.heap.size + 1 + 1 + 1, 2, none⟩) (by simp) (.string (bRow (bR (sumRel false N r M q) K k) (sumRel false N r M q k) (j + 1)))⟩)
                go_wp2_with fail
                go_roundw
                case rel =>
                  exact ⟨j + 1, by omega, by go_num, R.out.1, R.out.2⟩
                case measure => simp [intOf]; omega
              · have HP : Hid (sumRel false N r M q k j = bitAt q ((k - N) * M + (j - N))) := by rw [Hid, sumRel, if_neg (by omega), if_pos (by omega)]
                go_wp2_with fail
                refine (l1Rel_at M t q ((k : Int) - (N : Int)) ((j : Int) - (N : Int)) (k - N) (j - N) _ _ (by omega) (by omega) rfl (by omega) (by omega) hM HR.out.2.2.2).mono ?_
                rintro e w1 ⟨rfl, hw⟩
                have HXO1 : Hid (Below (((w.alloc (.cells #[.int .i64 N, .string s, .string r] 24)).alloc (.cells #[.int .i64 M, .string t, .string q] 24)).alloc (.cells #[.int .i64 0, .string ⟨#[]⟩, .string ⟨#[]⟩] 24)).heap.size (((w.alloc (.cells #[.int .i64 N, .string s, .string r] 24)).alloc (.cells #[.int .i64 M, .string t, .string q] 24)).alloc (.cells #[.int .i64 0, .string ⟨#[]⟩, .string ⟨#[]⟩] 24)) w1) := HXO.out.trans (hw.mono HXO.out.size)
                have HO1 := Lib.hid (HO.out.below hw HO.out.lt)
                clear a0 a1 a2 b0 b1 b2 o0 o1 o2 hw HXO HO
                have HXO := HXO1
                have HO := HO1
                clear HXO1 HO1
                obtain ⟨a0, a1, a2⟩ := (BAL.out.below HXO.out BAL.out.lt).c
                obtain ⟨b0, b1, b2⟩ := (BBL.out.below HXO.out BBL.out.lt).c
                obtain ⟨o0, o1, o2⟩ := HO.out.c
                have co : ∀ X : Wd (fun W => Hid (Below w1.heap.size w1 W)), X.w.cell? ⟨w.heap.size + 1 + 1 + 1, 0, none⟩ = some (.int .i64 ((N : Int) + (M : Int))) ∧ X.w.cell? ⟨w.heap.size + 1 + 1 + 1, 1, none⟩ = some (.string (s ++ t)) ∧ X.w.cell? ⟨w.heap.size + 1 + 1 + 1, 2, none⟩ = some (.string (bRow (bR (sumRel false N r M q) K k) (sumRel false N r M q k) j)) := fun X => (HO.out.below X.ok.out HO.out.lt).c
                have co0 := fun X => (co X).1
                have co1 := fun X => (co X).2.1
                have co2 := fun X => (co X).2.2
                clear co
                have hne : Nonempty (Wd (fun W => Hid (Below w1.heap.size w1 W))) := ⟨⟨w1, Lib.hid (Below.refl _ _)⟩⟩
                have hadd : ∀ W, (Op.stringOp .add (bRow (bR (sumRel false N r M q) K k) (sumRel false N r M q k) j) (bit1 (bitAt q ((k - N) * M + (j - N))))).run Tryd.prog W = .ok (.string (bRow (bR (sumRel false N r M q) K k) (sumRel false N r M q k) (j + 1))) W := fun W => (run_string_add_sum W _ _ (by rw [bRow_size, bR_size, bit1_size]; have := HKB.out; omega)).trans (by rw [bRow, HP.out])
                go_wp2_with fail
                refine flow_last (S := (fun W => Hid (Below w1.heap.size w1 W))) (by kernel_rfl) (by kernel_rfl) (by kernel_rfl) (by kernel_rfl) (by kernel_rfl) (Lib.hid (Below.refl _ _).drew) ?_
                simp only [List.dropLast_cons_cons, List.dropLast_singleton, List.getLast?_cons_cons, List.getLast?_singleton, Option.toList_some]
                repeat (go_big_quiet_step (first | (go_at_call 53; with_reducible refine (l1Bit_at _ _).mono ?_; rintro e W ⟨rfl, rfl⟩; exact ⟨rfl, _, rfl⟩)))
                refine wpQuiet_nil ?_
                rintro _ ⟨X, rfl⟩
                have HXX := Lib.hid X.ok.out
                have BX2 := HO.out.below HXX.out HO.out.lt
                have f2 := BX2.free 2
                have R := Lib.hid (show _ ∧ _ from ⟨BX2.set2 (bRow (bR (sumRel false N r M q) K k) (sumRel false N r M q k) (j + 1)), (HXO.out.trans (HXX.out.mono HXO.out.size)).setCell (p := ⟨w.heap.size + 1 + 1 + 1, 2, none⟩) (by simp) (.string (bRow (bR (sumRel false N r M q) K k) (sumRel false N r M q k) (j + 1)))⟩)
                go_wp2_with fail
                go_roundw
                case rel =>
                  exact ⟨j + 1, by omega, by go_num, R.out.1, R.out.2⟩
                case measure => simp [intOf]; omega
          | true =>
            by_cases hx : k < N
            · by_cases hy : j < N
              · have HP : Hid (sumRel true N r M q k j = bitAt r (k * N + j)) := by rw [Hid, sumRel, if_pos ⟨hx, hy⟩]
                go_wp2_with fail
                refine (l1Rel_at N s r k j k j _ _ rfl rfl rfl hx hy hN HR.out.2.1).mono ?_
                rintro e w1 ⟨rfl, hw⟩
                have HXO1 : Hid (Below (((w.alloc (.cells #[.int .i64 N, .string s, .string r] 24)).alloc (.cells #[.int .i64 M, .string t, .string q] 24)).alloc (.cells #[.int .i64 0, .string ⟨#[]⟩, .string ⟨#[]⟩] 24)).heap.size (((w.alloc (.cells #[.int .i64 N, .string s, .string r] 24)).alloc (.cells #[.int .i64 M, .string t, .string q] 24)).alloc (.cells #[.int .i64 0, .string ⟨#[]⟩, .string ⟨#[]⟩] 24)) w1) := HXO.out.trans (hw.mono HXO.out.size)
                have HO1 := Lib.hid (HO.out.below hw HO.out.lt)
                clear a0 a1 a2 b0 b1 b2 o0 o1 o2 hw HXO HO
                have HXO := HXO1
                have HO := HO1
                clear HXO1 HO1
                obtain ⟨a0, a1, a2⟩ := (BAL.out.below HXO.out BAL.out.lt).c
                obtain ⟨b0, b1, b2⟩ := (BBL.out.below HXO.out BBL.out.lt).c
                obtain ⟨o0, o1, o2⟩ := HO.out.c
                have co : ∀ X : Wd (fun W => Hid (Below w1.heap.size w1 W)), X.w.cell? ⟨w.heap.size + 1 + 1 + 1, 0, none⟩ = some (.int .i64 ((N : Int) + (M : Int))) ∧ X.w.cell? ⟨w.heap.size + 1 + 1 + 1, 1, none⟩ = some (.string (s ++ t)) ∧ X.w.cell? ⟨w.heap.size + 1 + 1 + 1, 2, none⟩ = some (.string (bRow (bR (sumRel true N r M q) K k) (sumRel true N r M q k) j)) := fun X => (HO.out.below X.ok.out HO.out.lt).c
                have co0 := fun X => (co X).1
                have co1 := fun X => (co X).2.1
                have co2 := fun X => (co X).2.2
                clear co
                have hne : Nonempty (Wd (fun W => Hid (Below w1.heap.size w1 W))) := ⟨⟨w1, Lib.hid (Below.refl _ _)⟩⟩
                have hadd : ∀ W, (Op.stringOp .add (bRow (bR (sumRel true N r M q) K k) (sumRel true N r M q k) j) (bit1 (bitAt r (k * N + j)))).run Tryd.prog W = .ok (.string (bRow (bR (sumRel true N r M q) K k) (sumRel true N r M q k) (j + 1))) W := fun W => (run_string_add_sum W _ _ (by rw [bRow_size, bR_size, bit1_size]; have := HKB.out; omega)).trans (by rw [bRow, HP.out])
                go_wp2_with fail
                refine flow_last (S := (fun W => Hid (Below w1.heap.size w1 W))) (by kernel_rfl) (by kernel_rfl) (by kernel_rfl) (by kernel_rfl) (by kernel_rfl) (Lib.hid (Below.refl _ _).drew) ?_
                simp only [List.dropLast_cons_cons, List.dropLast_singleton, List.getLast?_cons_cons, List.getLast?_singleton, Option.toList_some]
                repeat (go_big_quiet_step (first | (go_at_call 53; with_reducible refine (l1Bit_at _ _).mono ?_; rintro e W ⟨rfl, rfl⟩; exact ⟨rfl, _, rfl⟩)))
                refine wpQuiet_nil ?_
                rintro _ ⟨X, rfl⟩
                have HXX := Lib.hid X.ok.out
                have BX2 := HO.out.below HXX.out HO.out.lt
                have f2 := BX2.free 2
                have R := Lib.hid (show _ ∧ _ from ⟨BX2.set2 (bRow (bR (sumRel true N r M q) K k) (sumRel true N r M q k) (j + 1)), (HXO.out.trans (HXX.out.mono HXO.out.size)).setCell (p := ⟨w.heap.size + 1 + 1 + 1, 2, none⟩) (by simp) (.string (bRow (bR (sumRel true N r M q) K k) (sumRel true N r M q k) (j + 1)))⟩)
                go_wp2_with fail
                go_roundw
                case rel =>
                  exact ⟨j + 1, by omega, by go_num, R.out.1, R.out.2⟩
                case measure => simp [intOf]; omega
              · have HP : Hid (sumRel true N r M q k j = true) := by rw [Hid, sumRel, if_neg (by omega), if_neg (by omega), decide_eq_true hx]; rfl
                have hNj : N ≤ j := by omega
                have co : ∀ X : Wd (fun W => Hid (Below wr.heap.size wr W)), X.w.cell? ⟨w.heap.size + 1 + 1 + 1, 0, none⟩ = some (.int .i64 ((N : Int) + (M : Int))) ∧ X.w.cell? ⟨w.heap.size + 1 + 1 + 1, 1, none⟩ = some (.string (s ++ t)) ∧ X.w.cell? ⟨w.heap.size + 1 + 1 + 1, 2, none⟩ = some (.string (bRow (bR (sumRel true N r M q) K k) (sumRel true N r M q k) j)) := fun X => (HO.out.below X.ok.out HO.out.lt).c
                have co0 := fun X => (co X).1
                have co1 := fun X => (co X).2.1
                have co2 := fun X => (co X).2.2
                clear co
                have hne : Nonempty (Wd (fun W => Hid (Below wr.heap.size wr W))) := ⟨⟨wr, Lib.hid (Below.refl _ _)⟩⟩
                have hadd : ∀ W, (Op.stringOp .add (bRow (bR (sumRel true N r M q) K k) (sumRel true N r M q k) j) (bit1 true)).run Tryd.prog W = .ok (.string (bRow (bR (sumRel true N r M q) K k) (sumRel true N r M q k) (j + 1))) W := fun W => (run_string_add_sum W _ _ (by rw [bRow_size, bR_size, bit1_size]; have := HKB.out; omega)).trans (by rw [bRow, HP.out])
                go_wp2_with fail
                refine flow_last (S := (fun W => Hid (Below wr.heap.size wr W))) (by kernel_rfl) (by kernel_rfl) (by kernel_rfl) (by kernel_rfl) (by kernel_rfl) (Lib.hid (Below.refl _ _).drew) ?_
                simp only [List.dropLast_cons_cons, List.dropLast_singleton, List.getLast?_cons_cons, List.getLast?_singleton, Option.toList_some]
                repeat (go_big_quiet_step (first | (go_at_call 53; with_reducible refine (l1Bit_at _ _).mono ?_; rintro e W ⟨rfl, rfl⟩; exact ⟨rfl, _, rfl⟩)))
                refine wpQuiet_nil ?_
                rintro _ ⟨X, rfl⟩
                have HXX := Lib.hid X.ok.out
                have BX2 := HO.out.below HXX.out HO.out.lt
                have f2 := BX2.free 2
                have R := Lib.hid (show _ ∧ _ from ⟨BX2.set2 (bRow (bR (sumRel true N r M q) K k) (sumRel true N r M q k) (j + 1)), (HXO.out.trans (HXX.out.mono HXO.out.size)).setCell (p := ⟨w.heap.size + 1 + 1 + 1, 2, none⟩) (by simp) (.string (bRow (bR (sumRel true N r M q) K k) (sumRel true N r M q k) (j + 1)))⟩)
                go_wp2_with fail
                go_roundw
                case rel =>
                  exact ⟨j + 1, by omega, by go_num, R.out.1, R.out.2⟩
                case measure => simp [intOf]; omega
            · by_cases hy : j < N
              · have HP : Hid (sumRel true N r M q k j = false) := by rw [Hid, sumRel, if_neg (by omega), if_neg (by omega), decide_eq_false hx]; rfl
                have co : ∀ X : Wd (fun W => Hid (Below wr.heap.size wr W)), X.w.cell? ⟨w.heap.size + 1 + 1 + 1, 0, none⟩ = some (.int .i64 ((N : Int) + (M : Int))) ∧ X.w.cell? ⟨w.heap.size + 1 + 1 + 1, 1, none⟩ = some (.string (s ++ t)) ∧ X.w.cell? ⟨w.heap.size + 1 + 1 + 1, 2, none⟩ = some (.string (bRow (bR (sumRel true N r M q) K k) (sumRel true N r M q k) j)) := fun X => (HO.out.below X.ok.out HO.out.lt).c
                have co0 := fun X => (co X).1
                have co1 := fun X => (co X).2.1
                have co2 := fun X => (co X).2.2
                clear co
                have hne : Nonempty (Wd (fun W => Hid (Below wr.heap.size wr W))) := ⟨⟨wr, Lib.hid (Below.refl _ _)⟩⟩
                have hadd : ∀ W, (Op.stringOp .add (bRow (bR (sumRel true N r M q) K k) (sumRel true N r M q k) j) (bit1 false)).run Tryd.prog W = .ok (.string (bRow (bR (sumRel true N r M q) K k) (sumRel true N r M q k) (j + 1))) W := fun W => (run_string_add_sum W _ _ (by rw [bRow_size, bR_size, bit1_size]; have := HKB.out; omega)).trans (by rw [bRow, HP.out])
                go_wp2_with fail
                refine flow_last (S := (fun W => Hid (Below wr.heap.size wr W))) (by kernel_rfl) (by kernel_rfl) (by kernel_rfl) (by kernel_rfl) (by kernel_rfl) (Lib.hid (Below.refl _ _).drew) ?_
                simp only [List.dropLast_cons_cons, List.dropLast_singleton, List.getLast?_cons_cons, List.getLast?_singleton, Option.toList_some]
                repeat (go_big_quiet_step (first | (go_at_call 53; with_reducible refine (l1Bit_at _ _).mono ?_; rintro e W ⟨rfl, rfl⟩; exact ⟨rfl, _, rfl⟩)))
                refine wpQuiet_nil ?_
                rintro _ ⟨X, rfl⟩
                have HXX := Lib.hid X.ok.out
                have BX2 := HO.out.below HXX.out HO.out.lt
                have f2 := BX2.free 2
                have R := Lib.hid (show _ ∧ _ from ⟨BX2.set2 (bRow (bR (sumRel true N r M q) K k) (sumRel true N r M q k) (j + 1)), (HXO.out.trans (HXX.out.mono HXO.out.size)).setCell (p := ⟨w.heap.size + 1 + 1 + 1, 2, none⟩) (by simp) (.string (bRow (bR (sumRel true N r M q) K k) (sumRel true N r M q k) (j + 1)))⟩)
                go_wp2_with fail
                go_roundw
                case rel =>
                  exact ⟨j + 1, by omega, by go_num, R.out.1, R.out.2⟩
                case measure => simp [intOf]; omega
              · have HP : Hid (sumRel true N r M q k j = bitAt q ((k - N) * M + (j - N))) := by rw [Hid, sumRel, if_neg (by omega), if_pos (by omega)]
                go_wp2_with fail
                refine (l1Rel_at M t q ((k : Int) - (N : Int)) ((j : Int) - (N : Int)) (k - N) (j - N) _ _ (by omega) (by omega) rfl (by omega) (by omega) hM HR.out.2.2.2).mono ?_
                rintro e w1 ⟨rfl, hw⟩
                have HXO1 : Hid (Below (((w.alloc (.cells #[.int .i64 N, .string s, .string r] 24)).alloc (.cells #[.int .i64 M, .string t, .string q] 24)).alloc (.cells #[.int .i64 0, .string ⟨#[]⟩, .string ⟨#[]⟩] 24)).heap.size (((w.alloc (.cells #[.int .i64 N, .string s, .string r] 24)).alloc (.cells #[.int .i64 M, .string t, .string q] 24)).alloc (.cells #[.int .i64 0, .string ⟨#[]⟩, .string ⟨#[]⟩] 24)) w1) := HXO.out.trans (hw.mono HXO.out.size)
                have HO1 := Lib.hid (HO.out.below hw HO.out.lt)
                clear a0 a1 a2 b0 b1 b2 o0 o1 o2 hw HXO HO
                have HXO := HXO1
                have HO := HO1
                clear HXO1 HO1
                obtain ⟨a0, a1, a2⟩ := (BAL.out.below HXO.out BAL.out.lt).c
                obtain ⟨b0, b1, b2⟩ := (BBL.out.below HXO.out BBL.out.lt).c
                obtain ⟨o0, o1, o2⟩ := HO.out.c
                have co : ∀ X : Wd (fun W => Hid (Below w1.heap.size w1 W)), X.w.cell? ⟨w.heap.size + 1 + 1 + 1, 0, none⟩ = some (.int .i64 ((N : Int) + (M : Int))) ∧ X.w.cell? ⟨w.heap.size + 1 + 1 + 1, 1, none⟩ = some (.string (s ++ t)) ∧ X.w.cell? ⟨w.heap.size + 1 + 1 + 1, 2, none⟩ = some (.string (bRow (bR (sumRel true N r M q) K k) (sumRel true N r M q k) j)) := fun X => (HO.out.below X.ok.out HO.out.lt).c
                have co0 := fun X => (co X).1
                have co1 := fun X => (co X).2.1
                have co2 := fun X => (co X).2.2
                clear co
                have hne : Nonempty (Wd (fun W => Hid (Below w1.heap.size w1 W))) := ⟨⟨w1, Lib.hid (Below.refl _ _)⟩⟩
                have hadd : ∀ W, (Op.stringOp .add (bRow (bR (sumRel true N r M q) K k) (sumRel true N r M q k) j) (bit1 (bitAt q ((k - N) * M + (j - N))))).run Tryd.prog W = .ok (.string (bRow (bR (sumRel true N r M q) K k) (sumRel true N r M q k) (j + 1))) W := fun W => (run_string_add_sum W _ _ (by rw [bRow_size, bR_size, bit1_size]; have := HKB.out; omega)).trans (by rw [bRow, HP.out])
                go_wp2_with fail
                refine flow_last (S := (fun W => Hid (Below w1.heap.size w1 W))) (by kernel_rfl) (by kernel_rfl) (by kernel_rfl) (by kernel_rfl) (by kernel_rfl) (Lib.hid (Below.refl _ _).drew) ?_
                simp only [List.dropLast_cons_cons, List.dropLast_singleton, List.getLast?_cons_cons, List.getLast?_singleton, Option.toList_some]
                repeat (go_big_quiet_step (first | (go_at_call 53; with_reducible refine (l1Bit_at _ _).mono ?_; rintro e W ⟨rfl, rfl⟩; exact ⟨rfl, _, rfl⟩)))
                refine wpQuiet_nil ?_
                rintro _ ⟨X, rfl⟩
                have HXX := Lib.hid X.ok.out
                have BX2 := HO.out.below HXX.out HO.out.lt
                have f2 := BX2.free 2
                have R := Lib.hid (show _ ∧ _ from ⟨BX2.set2 (bRow (bR (sumRel true N r M q) K k) (sumRel true N r M q k) (j + 1)), (HXO.out.trans (HXX.out.mono HXO.out.size)).setCell (p := ⟨w.heap.size + 1 + 1 + 1, 2, none⟩) (by simp) (.string (bRow (bR (sumRel true N r M q) K k) (sumRel true N r M q k) (j + 1)))⟩)
                go_wp2_with fail
                go_roundw
                case rel =>
                  exact ⟨j + 1, by omega, by go_num, R.out.1, R.out.2⟩
                case measure => simp [intOf]; omega
        · obtain rfl : j = K := by omega
          have R : Hid (Box 24 wr (w.heap.size + 1 + 1 + 1) ((N : Int) + (M : Int)) (s ++ t) (bR (sumRel o N r M q) j (k + 1)) ∧ Below (((w.alloc (.cells #[.int .i64 N, .string s, .string r] 24)).alloc (.cells #[.int .i64 M, .string t, .string q] 24)).alloc (.cells #[.int .i64 0, .string ⟨#[]⟩, .string ⟨#[]⟩] 24)).heap.size (((w.alloc (.cells #[.int .i64 N, .string s, .string r] 24)).alloc (.cells #[.int .i64 M, .string t, .string q] 24)).alloc (.cells #[.int .i64 0, .string ⟨#[]⟩, .string ⟨#[]⟩] 24)) wr) := ⟨HO.out, HXO.out⟩
          clear HO HXO
          go_wp2
          go_roundw
          case rel => exact ⟨k + 1, by omega, by go_num, R.out.1, R.out.2⟩
          case measure => simp [intOf]; omega
    · obtain rfl : k = K := by omega
      have BZR := Lib.hid (BZL.out.below HXO.out BZL.out.lt)
      obtain ⟨z0, z1, z2⟩ := BZR.out.c
      have f0 := BZR.out.free 0
      have f1 := BZR.out.free 1
      have f2 := BZR.out.free 2
      have BE := ((BZR.out.set0 ((N : Int) + (M : Int))).set1 (s ++ t)).set2 (bR (sumRel o N r M q) k k)
      obtain ⟨e0, e1, e2⟩ := BE.c
      have HF := Lib.hid (show _ ∧ _ ∧ _ from ⟨e0, e1, e2⟩)
      clear e0 e1 e2 BE
      have R := Lib.hid ((((AW.out.trans (HXO.out.mono AW.out.size)).setCell (p := ⟨w.heap.size + 1 + 1, 0, none⟩) (by simp; omega) (.int .i64 ((N : Int) + (M : Int)))).setCell (p := ⟨w.heap.size + 1 + 1, 1, none⟩) (by simp; omega) (.string (s ++ t))).setCell (p := ⟨w.heap.size + 1 + 1, 2, none⟩) (by simp; omega) (.string (bR (sumRel o N r M q) k k)))
      go_wp2
      exact bodyPost_ret (v := .agg #[.int .i64 ((N : Int) + (M : Int)), .string (s ++ t), .string (bR (sumRel o N r M q) k k)]) (by simp [results, Tryd.results61, go_sem, HF.out.1, HF.out.2.1, HF.out.2.2]) rfl ⟨by rw [HKI.out], R.out⟩

/-- the reference's test -/
theorem l10Ready_any (n : Int) (s r : ByteArray) (m : Int) (t q : ByteArray) (z : Int) (w : World) (hs : s.size ≤ 9223372036854775807) (hr : r.size ≤ 9223372036854775807) (ht : t.size ≤ 9223372036854775807) (hq : q.size ≤ 9223372036854775807) :
    Calls Tryd.prog 60 #[.agg #[.int .i64 n, .string s, .string r], .agg #[.int .i64 m, .string t, .string q], .int .i64 z] w fun e w' => e = .returned (.bool (validB n s r && (validB m t q && inB z 1 8))) ∧ Below w.heap.size w w' := by
  have BB : Hid (Box 24 ((w.alloc (.cells #[.int .i64 n, .string s, .string r] 24)).alloc (.cells #[.int .i64 m, .string t, .string q] 24)) (w.heap.size + 1) m t q) := Box.new 24 _ (w.heap.size + 1) (by simp) m t q
  have AW : Hid (Below w.heap.size w ((w.alloc (.cells #[.int .i64 n, .string s, .string r] 24)).alloc (.cells #[.int .i64 m, .string t, .string q] 24))) := ((Below.refl _ _).alloc (Nat.le_refl _) _).alloc (by simp) _
  have HZ := Lib.hid (show _ ∧ _ ∧ _ ∧ _ from ⟨hs, hr, ht, hq⟩)
  clear hs hr ht hq
  go_enter Tryd.func60, Tryd.ntmps60
  go_wp2_with fail
  refine (StructureValid_any n s r _ HZ.out.1 HZ.out.2.1).mono ?_
  rintro e w1 ⟨rfl, hw⟩
  have HX := Lib.hid hw
  clear hw
  have AK1 : Hid (Below w.heap.size w w1) := AW.out.trans (HX.out.mono AW.out.size)
  obtain ⟨b0, b1, b2⟩ := (BB.out.below HX.out BB.out.lt).c
  cases hv : validB n s r with
  | false =>
    have HV1 := Lib.hid hv
    clear hv
    go_wp2
    go_ret
    exact ⟨by rw [HV1.out]; rfl, AK1.out⟩
  | true =>
    have HV1 := Lib.hid hv
    clear hv
    go_wp2_with fail
    refine (StructureValid_any m t q _ HZ.out.2.2.1 HZ.out.2.2.2).mono ?_
    rintro e w2 ⟨rfl, hw⟩
    have AK2 : Hid (Below w.heap.size w w2) := AK1.out.trans (hw.mono AK1.out.size)
    clear hw b0 b1 b2
    cases hv : validB m t q with
    | false =>
      have HV2 := Lib.hid hv
      clear hv
      go_wp2
      go_ret
      exact ⟨by rw [HV1.out, HV2.out]; rfl, AK2.out⟩
    | true =>
      have HV2 := Lib.hid hv
      clear hv
      go_wp2_with fail
      refine (l1In_any z 1 8 _).mono ?_
      rintro e w3 ⟨rfl, rfl⟩
      go_wp2
      go_ret
      exact ⟨by rw [HV1.out, HV2.out]; rfl, AK2.out⟩

set_option maxHeartbeats 1600000 in
theorem implDisjointSum_any (n : Int) (s r : ByteArray) (m : Int) (t q : ByteArray) (w : World) (hs : s.size ≤ 9223372036854775807) (hr : r.size ≤ 9223372036854775807) (ht : t.size ≤ 9223372036854775807) (hq : q.size ≤ 9223372036854775807) :
    Calls Tryd.prog 18 #[.agg #[.int .i64 n, .string s, .string r], .agg #[.int .i64 m, .string t, .string q]] w fun e w' => e = .returned (.tuple #[.agg #[.int .i64 (sn n s r m t q), .string (ss n s r m t q), .string (sr false n s r m t q)], .bool (okS n s r m t q)]) ∧ Below w.heap.size w w' := by
  have BZ : Hid (Box 24 (((w.alloc (.cells #[.int .i64 n, .string s, .string r] 24)).alloc (.cells #[.int .i64 m, .string t, .string q] 24)).alloc (.cells #[.int .i64 0, .string ⟨#[]⟩, .string ⟨#[]⟩] 24)) (w.heap.size + 1 + 1) 0 ⟨#[]⟩ ⟨#[]⟩) := Box.new 24 _ (w.heap.size + 1 + 1) (by simp) 0 ⟨#[]⟩ ⟨#[]⟩
  have AW : Hid (Below w.heap.size w (((w.alloc (.cells #[.int .i64 n, .string s, .string r] 24)).alloc (.cells #[.int .i64 m, .string t, .string q] 24)).alloc (.cells #[.int .i64 0, .string ⟨#[]⟩, .string ⟨#[]⟩] 24))) := (((Below.refl _ _).alloc (Nat.le_refl _) _).alloc (by simp) _).alloc (by simp only [World.size_alloc]; omega) _
  have HZ := Lib.hid (show _ ∧ _ ∧ _ ∧ _ from ⟨hs, hr, ht, hq⟩)
  clear hs hr ht hq
  go_enter Tryd.func18, Tryd.ntmps18
  go_wp2_with fail
  refine (sumOf_any false n s r m t q _ HZ.out.1 HZ.out.2.1 HZ.out.2.2.1 HZ.out.2.2.2).mono ?_
  rintro e w1 ⟨rfl, hw⟩
  have HX := Lib.hid hw
  clear hw
  have BZ1 := Lib.hid (BZ.out.below HX.out BZ.out.lt)
  obtain ⟨z0, z1, z2⟩ := BZ1.out.c
  have f0 := BZ1.out.free 0
  have f1 := BZ1.out.free 1
  have f2 := BZ1.out.free 2
  obtain ⟨e0, e1, e2⟩ := (((BZ1.out.set0 (sn n s r m t q)).set1 (ss n s r m t q)).set2 (sr false n s r m t q)).c
  have HF := Lib.hid (show _ ∧ _ ∧ _ from ⟨e0, e1, e2⟩)
  clear e0 e1 e2
  have R := Lib.hid ((((AW.out.trans (HX.out.mono AW.out.size)).setCell (p := ⟨w.heap.size + 1 + 1, 0, none⟩) (by simp; omega) (.int .i64 (sn n s r m t q))).setCell (p := ⟨w.heap.size + 1 + 1, 1, none⟩) (by simp; omega) (.string (ss n s r m t q))).setCell (p := ⟨w.heap.size + 1 + 1, 2, none⟩) (by simp; omega) (.string (sr false n s r m t q)))
  go_wp2
  exact bodyPost_ret (v := .tuple #[.agg #[.int .i64 (sn n s r m t q), .string (ss n s r m t q), .string (sr false n s r m t q)], .bool (okS n s r m t q)]) (by simp [results, Tryd.results18, go_sem, HF.out.1, HF.out.2.1, HF.out.2.2]) rfl ⟨rfl, R.out⟩

set_option maxHeartbeats 1600000 in
theorem specDisjointSum_any (n : Int) (s r : ByteArray) (m : Int) (t q : ByteArray) (w : World) (hn : (Lit.int .i64 n).wf = true) (hm : (Lit.int .i64 m).wf = true) (hs : s.size ≤ 9223372036854775807) (hr : r.size ≤ 9223372036854775807) (ht : t.size ≤ 9223372036854775807) (hq : q.size ≤ 9223372036854775807) :
    Calls Tryd.prog 19 #[.agg #[.int .i64 n, .string s, .string r], .agg #[.int .i64 m, .string t, .string q]] w fun e w' => e = .returned (.tuple #[.agg #[.int .i64 (sn n s r m t q), .string (ss n s r m t q), .string (sr false n s r m t q)], .bool (okS n s r m t q)]) ∧ Below w.heap.size w w' := by
  have BA : Hid (Box 24 (((w.alloc (.cells #[.int .i64 n, .string s, .string r] 24)).alloc (.cells #[.int .i64 m, .string t, .string q] 24)).alloc (.cells #[.int .i64 0, .string ⟨#[]⟩, .string ⟨#[]⟩] 24)) w.heap.size n s r) := ((Box.new 24 w w.heap.size rfl n s r).below ((Below.refl (w.heap.size + 1) _).alloc (by simp) _) (by omega)).below ((Below.refl (w.heap.size + 1) _).alloc (by simp) _) (by omega)
  have BBX : Hid (Box 24 (((w.alloc (.cells #[.int .i64 n, .string s, .string r] 24)).alloc (.cells #[.int .i64 m, .string t, .string q] 24)).alloc (.cells #[.int .i64 0, .string ⟨#[]⟩, .string ⟨#[]⟩] 24)) (w.heap.size + 1) m t q) := (Box.new 24 _ (w.heap.size + 1) (by simp) m t q).below ((Below.refl (w.heap.size + 1 + 1) _).alloc (by simp) _) (by omega)
  have BZ : Hid (Box 24 (((w.alloc (.cells #[.int .i64 n, .string s, .string r] 24)).alloc (.cells #[.int .i64 m, .string t, .string q] 24)).alloc (.cells #[.int .i64 0, .string ⟨#[]⟩, .string ⟨#[]⟩] 24)) (w.heap.size + 1 + 1) 0 ⟨#[]⟩ ⟨#[]⟩) := Box.new 24 _ (w.heap.size + 1 + 1) (by simp) 0 ⟨#[]⟩ ⟨#[]⟩
  have AW : Hid (Below w.heap.size w (((w.alloc (.cells #[.int .i64 n, .string s, .string r] 24)).alloc (.cells #[.int .i64 m, .string t, .string q] 24)).alloc (.cells #[.int .i64 0, .string ⟨#[]⟩, .string ⟨#[]⟩] 24))) := (((Below.refl _ _).alloc (Nat.le_refl _) _).alloc (by simp) _).alloc (by simp only [World.size_alloc]; omega) _
  have HZ := Lib.hid (show _ ∧ _ ∧ _ ∧ _ from ⟨hs, hr, ht, hq⟩)
  clear hs hr ht hq
  obtain ⟨z, hz⟩ : ∃ z, z = wrap64 (n + m) := ⟨_, rfl⟩
  have HZW := Lib.hid hz
  clear hz hn hm
  go_enter Tryd.func19, Tryd.ntmps19
  go_wp2_with fail
  rw [← HZW.out]
  refine (l10Ready_any n s r m t q z _ HZ.out.1 HZ.out.2.1 HZ.out.2.2.1 HZ.out.2.2.2).mono ?_
  rintro e w1 ⟨rfl, hw⟩
  have HX := Lib.hid hw
  clear hw
  have BA1 := Lib.hid (BA.out.below HX.out BA.out.lt)
  have BB1 := Lib.hid (BBX.out.below HX.out BBX.out.lt)
  have BZ1 := Lib.hid (BZ.out.below HX.out BZ.out.lt)
  obtain ⟨a0, a1, a2⟩ := BA1.out.c
  obtain ⟨b0, b1, b2⟩ := BB1.out.c
  obtain ⟨z0, z1, z2⟩ := BZ1.out.c
  have f0 := BZ1.out.free 0
  have f1 := BZ1.out.free 1
  have f2 := BZ1.out.free 2
  have hsame : (validB n s r && (validB m t q && inB z 1 8)) = okS n s r m t q := by
    unfold okS
    cases hv1 : validB n s r with
    | false => rfl
    | true =>
      cases hv2 : validB m t q with
      | false => rfl
      | true =>
        have h1 := (validB_iff.1 hv1).1
        have h2 := (validB_iff.1 hv2).1
        have h3 : z = n + m := by rw [HZW.out, wrap64]; omega
        rw [h3]
        simp [inB]
        omega
  rw [hsame]
  clear hsame
  cases hok : okS n s r m t q with
  | false =>
    have HE := Lib.hid (s_no false hok)
    have HOK := Lib.hid hok
    clear hok
    obtain ⟨e0, e1, e2⟩ := (((BZ1.out.set0 0).set1 ⟨#[]⟩).set2 ⟨#[]⟩).c
    have HF := Lib.hid (show _ ∧ _ ∧ _ from ⟨e0, e1, e2⟩)
    clear e0 e1 e2
    have R := Lib.hid ((((AW.out.trans (HX.out.mono AW.out.size)).setCell (p := ⟨w.heap.size + 1 + 1, 0, none⟩) (by simp; omega) (.int .i64 0)).setCell (p := ⟨w.heap.size + 1 + 1, 1, none⟩) (by simp; omega) (.string ⟨#[]⟩)).setCell (p := ⟨w.heap.size + 1 + 1, 2, none⟩) (by simp; omega) (.string ⟨#[]⟩))
    go_wp2
    exact bodyPost_ret (v := .tuple #[.agg #[.int .i64 0, .string ⟨#[]⟩, .string ⟨#[]⟩], .bool false]) (by simp [results, Tryd.results19, go_sem, HF.out.1, HF.out.2.1, HF.out.2.2]) rfl ⟨by rw [HE.out.1, HE.out.2.1, HE.out.2.2, HOK.out], R.out⟩
  | true =>
    obtain ⟨hv1, hv2, hk⟩ : validB n s r = true ∧ validB m t q = true ∧ n + m ≤ 8 := by simpa [okS] using hok
    obtain ⟨N, rfl, hN1, hN8, hsN, hrN⟩ := valid_size hv1
    obtain ⟨M, rfl, hM1, hM8, hsM, hrM⟩ := valid_size hv2
    obtain ⟨K, hK⟩ : ∃ K, K = N + M := ⟨_, rfl⟩
    have HE := Lib.hid (s_yes false hK hok)
    have HOK := Lib.hid hok
    have HKK := Lib.hid hK
    have hK8 : K ≤ 8 := by omega
    clear hok hv1 hv2 hK
    have HSM := Lib.hid (show _ ∧ _ ∧ _ ∧ _ from ⟨hsN, hrN, hsM, hrM⟩)
    clear hsN hrN hsM hrM
    go_wp2_with fail
    refine (l10Sum_any false N s r M t q K _ hN8 hM8 HKK.out hK8 HSM.out.1 HSM.out.2.1 HSM.out.2.2.1 HSM.out.2.2.2).mono ?_
    rintro e w2 ⟨rfl, hw⟩
    have HX2 := Lib.hid hw
    clear hw
    have BZ2 := Lib.hid (BZ1.out.below HX2.out BZ1.out.lt)
    clear a0 a1 a2 b0 b1 b2 z0 z1 z2 f0 f1 f2
    obtain ⟨z0, z1, z2⟩ := BZ2.out.c
    have f0 := BZ2.out.free 0
    have f1 := BZ2.out.free 1
    have f2 := BZ2.out.free 2
    obtain ⟨e0, e1, e2⟩ := (((BZ2.out.set0 (K : Int)).set1 (s ++ t)).set2 (bR (sumRel false N r M q) K K)).c
    have HF := Lib.hid (show _ ∧ _ ∧ _ from ⟨e0, e1, e2⟩)
    clear e0 e1 e2
    have R := Lib.hid (((((AW.out.trans (HX.out.mono AW.out.size)).trans (HX2.out.mono (Nat.le_trans AW.out.size HX.out.size))).setCell (p := ⟨w.heap.size + 1 + 1, 0, none⟩) (by simp; omega) (.int .i64 (K : Int))).setCell (p := ⟨w.heap.size + 1 + 1, 1, none⟩) (by simp; omega) (.string (s ++ t))).setCell (p := ⟨w.heap.size + 1 + 1, 2, none⟩) (by simp; omega) (.string (bR (sumRel false N r M q) K K)))
    go_wp2
    exact bodyPost_ret (v := .tuple #[.agg #[.int .i64 (K : Int), .string (s ++ t), .string (bR (sumRel false N r M q) K K)], .bool true]) (by simp [results, Tryd.results19, go_sem, HF.out.1, HF.out.2.1, HF.out.2.2]) rfl ⟨by rw [HE.out.1, HE.out.2.1, HE.out.2.2, HOK.out], R.out⟩

theorem disj.specE (n : Int) (s r : ByteArray) (m : Int) (t q : ByteArray) (hn : (Lit.int .i64 n).wf = true) (hm : (Lit.int .i64 m).wf = true) : s.size + r.size + (t.size + q.size) ≤ 1048576 → ∀ (w : World),
    Calls Tryd.prog 19 #[.agg #[.int .i64 n, .string s, .string r], .agg #[.int .i64 m, .string t, .string q]] w fun e w' => e = .returned (.tuple #[.agg #[.int .i64 (sn n s r m t q), .string (ss n s r m t q), .string (sr false n s r m t q)], .bool (okS n s r m t q)]) ∧ Below w.heap.size w w' :=
  fun h w => specDisjointSum_any n s r m t q w hn hm (by omega) (by omega) (by omega) (by omega)

theorem disj.implE (n : Int) (s r : ByteArray) (m : Int) (t q : ByteArray) (_ : (Lit.int .i64 n).wf = true) (_ : (Lit.int .i64 m).wf = true) : s.size + r.size + (t.size + q.size) ≤ 1048576 → ∀ (w : World),
    Calls Tryd.prog 18 #[.agg #[.int .i64 n, .string s, .string r], .agg #[.int .i64 m, .string t, .string q]] w fun e w' => e = .returned (.tuple #[.agg #[.int .i64 (sn n s r m t q), .string (ss n s r m t q), .string (sr false n s r m t q)], .bool (okS n s r m t q)]) ∧ Below w.heap.size w w' :=
  fun h w => implDisjointSum_any n s r m t q w (by omega) (by omega) (by omega) (by omega)

set_option maxHeartbeats 1600000 in
theorem implOrderedSum_any (n : Int) (s r : ByteArray) (m : Int) (t q : ByteArray) (w : World) (hs : s.size ≤ 9223372036854775807) (hr : r.size ≤ 9223372036854775807) (ht : t.size ≤ 9223372036854775807) (hq : q.size ≤ 9223372036854775807) :
    Calls Tryd.prog 20 #[.agg #[.int .i64 n, .string s, .string r], .agg #[.int .i64 m, .string t, .string q]] w fun e w' => e = .returned (.tuple #[.agg #[.int .i64 (sn n s r m t q), .string (ss n s r m t q), .string (sr true n s r m t q)], .bool (okS n s r m t q)]) ∧ Below w.heap.size w w' := by
  have BZ : Hid (Box 24 (((w.alloc (.cells #[.int .i64 n, .string s, .string r] 24)).alloc (.cells #[.int .i64 m, .string t, .string q] 24)).alloc (.cells #[.int .i64 0, .string ⟨#[]⟩, .string ⟨#[]⟩] 24)) (w.heap.size + 1 + 1) 0 ⟨#[]⟩ ⟨#[]⟩) := Box.new 24 _ (w.heap.size + 1 + 1) (by simp) 0 ⟨#[]⟩ ⟨#[]⟩
  have AW : Hid (Below w.heap.size w (((w.alloc (.cells #[.int .i64 n, .string s, .string r] 24)).alloc (.cells #[.int .i64 m, .string t, .string q] 24)).alloc (.cells #[.int .i64 0, .string ⟨#[]⟩, .string ⟨#[]⟩] 24))) := (((Below.refl _ _).alloc (Nat.le_refl _) _).alloc (by simp) _).alloc (by simp only [World.size_alloc]; omega) _
  have HZ := Lib.hid (show _ ∧ _ ∧ _ ∧ _ from ⟨hs, hr, ht, hq⟩)
  clear hs hr ht hq
  go_enter Tryd.func20, Tryd.ntmps20
  go_wp2_with fail
  refine (sumOf_any true n s r m t q _ HZ.out.1 HZ.out.2.1 HZ.out.2.2.1 HZ.out.2.2.2).mono ?_
  rintro e w1 ⟨rfl, hw⟩
  have HX := Lib.hid hw
  clear hw
  have BZ1 := Lib.hid (BZ.out.below HX.out BZ.out.lt)
  obtain ⟨z0, z1, z2⟩ := BZ1.out.c
  have f0 := BZ1.out.free 0
  have f1 := BZ1.out.free 1
  have f2 := BZ1.out.free 2
  obtain ⟨e0, e1, e2⟩ := (((BZ1.out.set0 (sn n s r m t q)).set1 (ss n s r m t q)).set2 (sr true n s r m t q)).c
  have HF := Lib.hid (show _ ∧ _ ∧ _ from ⟨e0, e1, e2⟩)
  clear e0 e1 e2
  have R := Lib.hid ((((AW.out.trans (HX.out.mono AW.out.size)).setCell (p := ⟨w.heap.size + 1 + 1, 0, none⟩) (by simp; omega) (.int .i64 (sn n s r m t q))).setCell (p := ⟨w.heap.size + 1 + 1, 1, none⟩) (by simp; omega) (.string (ss n s r m t q))).setCell (p := ⟨w.heap.size + 1 + 1, 2, none⟩) (by simp; omega) (.string (sr true n s r m t q)))
  go_wp2
  exact bodyPost_ret (v := .tuple #[.agg #[.int .i64 (sn n s r m t q), .string (ss n s r m t q), .string (sr true n s r m t q)], .bool (okS n s r m t q)]) (by simp [results, Tryd.results20, go_sem, HF.out.1, HF.out.2.1, HF.out.2.2]) rfl ⟨rfl, R.out⟩

set_option maxHeartbeats 1600000 in
theorem specOrderedSum_any (n : Int) (s r : ByteArray) (m : Int) (t q : ByteArray) (w : World) (hn : (Lit.int .i64 n).wf = true) (hm : (Lit.int .i64 m).wf = true) (hs : s.size ≤ 9223372036854775807) (hr : r.size ≤ 9223372036854775807) (ht : t.size ≤ 9223372036854775807) (hq : q.size ≤ 9223372036854775807) :
    Calls Tryd.prog 21 #[.agg #[.int .i64 n, .string s, .string r], .agg #[.int .i64 m, .string t, .string q]] w fun e w' => e = .returned (.tuple #[.agg #[.int .i64 (sn n s r m t q), .string (ss n s r m t q), .string (sr true n s r m t q)], .bool (okS n s r m t q)]) ∧ Below w.heap.size w w' := by
  have BA : Hid (Box 24 (((w.alloc (.cells #[.int .i64 n, .string s, .string r] 24)).alloc (.cells #[.int .i64 m, .string t, .string q] 24)).alloc (.cells #[.int .i64 0, .string ⟨#[]⟩, .string ⟨#[]⟩] 24)) w.heap.size n s r) := ((Box.new 24 w w.heap.size rfl n s r).below ((Below.refl (w.heap.size + 1) _).alloc (by simp) _) (by omega)).below ((Below.refl (w.heap.size + 1) _).alloc (by simp) _) (by omega)
  have BBX : Hid (Box 24 (((w.alloc (.cells #[.int .i64 n, .string s, .string r] 24)).alloc (.cells #[.int .i64 m, .string t, .string q] 24)).alloc (.cells #[.int .i64 0, .string ⟨#[]⟩, .string ⟨#[]⟩] 24)) (w.heap.size + 1) m t q) := (Box.new 24 _ (w.heap.size + 1) (by simp) m t q).below ((Below.refl (w.heap.size + 1 + 1) _).alloc (by simp) _) (by omega)
  have BZ : Hid (Box 24 (((w.alloc (.cells #[.int .i64 n, .string s, .string r] 24)).alloc (.cells #[.int .i64 m, .string t, .string q] 24)).alloc (.cells #[.int .i64 0, .string ⟨#[]⟩, .string ⟨#[]⟩] 24)) (w.heap.size + 1 + 1) 0 ⟨#[]⟩ ⟨#[]⟩) := Box.new 24 _ (w.heap.size + 1 + 1) (by simp) 0 ⟨#[]⟩ ⟨#[]⟩
  have AW : Hid (Below w.heap.size w (((w.alloc (.cells #[.int .i64 n, .string s, .string r] 24)).alloc (.cells #[.int .i64 m, .string t, .string q] 24)).alloc (.cells #[.int .i64 0, .string ⟨#[]⟩, .string ⟨#[]⟩] 24))) := (((Below.refl _ _).alloc (Nat.le_refl _) _).alloc (by simp) _).alloc (by simp only [World.size_alloc]; omega) _
  have HZ := Lib.hid (show _ ∧ _ ∧ _ ∧ _ from ⟨hs, hr, ht, hq⟩)
  clear hs hr ht hq
  obtain ⟨z, hz⟩ : ∃ z, z = wrap64 (n + m) := ⟨_, rfl⟩
  have HZW := Lib.hid hz
  clear hz hn hm
  go_enter Tryd.func21, Tryd.ntmps21
  go_wp2_with fail
  rw [← HZW.out]
  refine (l10Ready_any n s r m t q z _ HZ.out.1 HZ.out.2.1 HZ.out.2.2.1 HZ.out.2.2.2).mono ?_
  rintro e w1 ⟨rfl, hw⟩
  have HX := Lib.hid hw
  clear hw
  have BA1 := Lib.hid (BA.out.below HX.out BA.out.lt)
  have BB1 := Lib.hid (BBX.out.below HX.out BBX.out.lt)
  have BZ1 := Lib.hid (BZ.out.below HX.out BZ.out.lt)
  obtain ⟨a0, a1, a2⟩ := BA1.out.c
  obtain ⟨b0, b1, b2⟩ := BB1.out.c
  obtain ⟨z0, z1, z2⟩ := BZ1.out.c
  have f0 := BZ1.out.free 0
  have f1 := BZ1.out.free 1
  have f2 := BZ1.out.free 2
  have hsame : (validB n s r && (validB m t q && inB z 1 8)) = okS n s r m t q := by
    unfold okS
    cases hv1 : validB n s r with
    | false => rfl
    | true =>
      cases hv2 : validB m t q with
      | false => rfl
      | true =>
        have h1 := (validB_iff.1 hv1).1
        have h2 := (validB_iff.1 hv2).1
        have h3 : z = n + m := by rw [HZW.out, wrap64]; omega
        rw [h3]
        simp [inB]
        omega
  rw [hsame]
  clear hsame
  cases hok : okS n s r m t q with
  | false =>
    have HE := Lib.hid (s_no true hok)
    have HOK := Lib.hid hok
    clear hok
    obtain ⟨e0, e1, e2⟩ := (((BZ1.out.set0 0).set1 ⟨#[]⟩).set2 ⟨#[]⟩).c
    have HF := Lib.hid (show _ ∧ _ ∧ _ from ⟨e0, e1, e2⟩)
    clear e0 e1 e2
    have R := Lib.hid ((((AW.out.trans (HX.out.mono AW.out.size)).setCell (p := ⟨w.heap.size + 1 + 1, 0, none⟩) (by simp; omega) (.int .i64 0)).setCell (p := ⟨w.heap.size + 1 + 1, 1, none⟩) (by simp; omega) (.string ⟨#[]⟩)).setCell (p := ⟨w.heap.size + 1 + 1, 2, none⟩) (by simp; omega) (.string ⟨#[]⟩))
    go_wp2
    exact bodyPost_ret (v := .tuple #[.agg #[.int .i64 0, .string ⟨#[]⟩, .string ⟨#[]⟩], .bool false]) (by simp [results, Tryd.results21, go_sem, HF.out.1, HF.out.2.1, HF.out.2.2]) rfl ⟨by rw [HE.out.1, HE.out.2.1, HE.out.2.2, HOK.out], R.out⟩
  | true =>
    obtain ⟨hv1, hv2, hk⟩ : validB n s r = true ∧ validB m t q = true ∧ n + m ≤ 8 := by simpa [okS] using hok
    obtain ⟨N, rfl, hN1, hN8, hsN, hrN⟩ := valid_size hv1
    obtain ⟨M, rfl, hM1, hM8, hsM, hrM⟩ := valid_size hv2
    obtain ⟨K, hK⟩ : ∃ K, K = N + M := ⟨_, rfl⟩
    have HE := Lib.hid (s_yes true hK hok)
    have HOK := Lib.hid hok
    have HKK := Lib.hid hK
    have hK8 : K ≤ 8 := by omega
    clear hok hv1 hv2 hK
    have HSM := Lib.hid (show _ ∧ _ ∧ _ ∧ _ from ⟨hsN, hrN, hsM, hrM⟩)
    clear hsN hrN hsM hrM
    go_wp2_with fail
    refine (l10Sum_any true N s r M t q K _ hN8 hM8 HKK.out hK8 HSM.out.1 HSM.out.2.1 HSM.out.2.2.1 HSM.out.2.2.2).mono ?_
    rintro e w2 ⟨rfl, hw⟩
    have HX2 := Lib.hid hw
    clear hw
    have BZ2 := Lib.hid (BZ1.out.below HX2.out BZ1.out.lt)
    clear a0 a1 a2 b0 b1 b2 z0 z1 z2 f0 f1 f2
    obtain ⟨z0, z1, z2⟩ := BZ2.out.c
    have f0 := BZ2.out.free 0
    have f1 := BZ2.out.free 1
    have f2 := BZ2.out.free 2
    obtain ⟨e0, e1, e2⟩ := (((BZ2.out.set0 (K : Int)).set1 (s ++ t)).set2 (bR (sumRel true N r M q) K K)).c
    have HF := Lib.hid (show _ ∧ _ ∧ _ from ⟨e0, e1, e2⟩)
    clear e0 e1 e2
    have R := Lib.hid (((((AW.out.trans (HX.out.mono AW.out.size)).trans (HX2.out.mono (Nat.le_trans AW.out.size HX.out.size))).setCell (p := ⟨w.heap.size + 1 + 1, 0, none⟩) (by simp; omega) (.int .i64 (K : Int))).setCell (p := ⟨w.heap.size + 1 + 1, 1, none⟩) (by simp; omega) (.string (s ++ t))).setCell (p := ⟨w.heap.size + 1 + 1, 2, none⟩) (by simp; omega) (.string (bR (sumRel true N r M q) K K)))
    go_wp2
    exact bodyPost_ret (v := .tuple #[.agg #[.int .i64 (K : Int), .string (s ++ t), .string (bR (sumRel true N r M q) K K)], .bool true]) (by simp [results, Tryd.results21, go_sem, HF.out.1, HF.out.2.1, HF.out.2.2]) rfl ⟨by rw [HE.out.1, HE.out.2.1, HE.out.2.2, HOK.out], R.out⟩

theorem ordr.specE (n : Int) (s r : ByteArray) (m : Int) (t q : ByteArray) (hn : (Lit.int .i64 n).wf = true) (hm : (Lit.int .i64 m).wf = true) : s.size + r.size + (t.size + q.size) ≤ 1048576 → ∀ (w : World),
    Calls Tryd.prog 21 #[.agg #[.int .i64 n, .string s, .string r], .agg #[.int .i64 m, .string t, .string q]] w fun e w' => e = .returned (.tuple #[.agg #[.int .i64 (sn n s r m t q), .string (ss n s r m t q), .string (sr true n s r m t q)], .bool (okS n s r m t q)]) ∧ Below w.heap.size w w' :=
  fun h w => specOrderedSum_any n s r m t q w hn hm (by omega) (by omega) (by omega) (by omega)

theorem ordr.implE (n : Int) (s r : ByteArray) (m : Int) (t q : ByteArray) (_ : (Lit.int .i64 n).wf = true) (_ : (Lit.int .i64 m).wf = true) : s.size + r.size + (t.size + q.size) ≤ 1048576 → ∀ (w : World),
    Calls Tryd.prog 20 #[.agg #[.int .i64 n, .string s, .string r], .agg #[.int .i64 m, .string t, .string q]] w fun e w' => e = .returned (.tuple #[.agg #[.int .i64 (sn n s r m t q), .string (ss n s r m t q), .string (sr true n s r m t q)], .bool (okS n s r m t q)]) ∧ Below w.heap.size w w' :=
  fun h w => implOrderedSum_any n s r m t q w (by omega) (by omega) (by omega) (by omega)

end Go.Proofs.YtefneihlgclkbaaDoor.sum
