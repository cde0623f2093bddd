/- The sums, in the program and in the reference. -/
import Derived.Test.YtpcnoiigbmiejaaDoorRows
import Derived.Test.YtpcnoiigbmiejaaDoorBase
import Derived.Test.YtpcnoiigbmiejaaDoorMake
import Derived.Test.YtpcnoiigbmiejaaDoorFlow
import Derived.Test.YtpcnoiigbmiejaaDoorProd
namespace Go.Proofs.YtpcnoiigbmiejaaDoor.sum
set_option linter.unusedVariables false
set_option linter.unusedSimpArgs false
open Go.ChangeShapes Go.WideShapes Go.ChangeAt Go.RowKit
open Go.Proofs.YtpcnoiigbmiejaaDoor.lib Go.Proofs.YtpcnoiigbmiejaaDoor.st Go.Proofs.YtpcnoiigbmiejaaDoor.base Go.Proofs.YtpcnoiigbmiejaaDoor.make Go.Proofs.YtpcnoiigbmiejaaDoor.flow Go.Proofs.YtpcnoiigbmiejaaDoor.prod Go.Proofs.YtpcnoiigbmiejaaDoor.trim Go.Proofs.YtpcnoiigbmiejaaDoor.basic

def sumSet (n : Nat) (s t : ByteArray) (x : Nat) : Bool := if x < n then bitAt s x else bitAt t (x - n)
def sumRel (o : Bool) (n : Nat) (r : ByteArray) (m : Nat) (q : ByteArray) (x y : Nat) : Bool :=
  if x < n ∧ y < n then bitAt r (x * n + y) else if n ≤ x ∧ n ≤ y then bitAt q ((x - n) * m + (y - n)) else o && decide (x < n)
def okS (n : Int) (s r : ByteArray) (m : Int) (t q : ByteArray) : Bool := validB n s r && (validB m t q && decide (n + m ≤ 8))

theorem cell_below {w w' : World} {H C : Nat} {v : Value} (h : w.cell? ⟨H, 0, none⟩ = some v) (hb : Below C w w') (hC : H < C) : w'.cell? ⟨H, 0, none⟩ = some v := by
  rw [hb.cell (p := ⟨H, 0, none⟩) hC]; exact h
theorem cell_new (w : World) (v : Value) (E : TypeId) (H : Nat) (hH : w.heap.size = H) : (w.alloc (.cells #[v] E)).cell? ⟨H, 0, none⟩ = some v := by
  subst hH
  have h := heap_alloc_new w (.cells #[v] E)
  unfold World.cell?
  simp only []
  rw [h]
  rfl
theorem cell_lt {w : World} {H : Nat} {v : Value} (h : w.cell? ⟨H, 0, none⟩ = some v) : H < w.heap.size := World.block_lt_of_cell? w ⟨H, 0, none⟩ h

/-- the bits of a text of bits are the text -/
theorem bS_list (p : Nat → Bool) : ∀ k, (bS p k).data.toList = (List.range k).map fun i => if p i then (49 : UInt8) else 48
  | 0 => rfl
  | k + 1 => by
    rw [bS, ByteArray.data_append, Array.toList_append, bS_list p k, List.range_succ, List.map_append]
    rfl
theorem bits_mem {s : ByteArray} (h : bitsB s = true) (i : Nat) (hi : i < s.size) : s.data.toList.getD i 0 = if bitAt s i then 49 else 48 := by
  have h1 : s.data.toList.getD i 0 ∈ s.data.toList := by
    have hl : i < s.data.toList.length := by simpa using hi
    rw [List.getD_eq_getElem?_getD, List.getElem?_eq_getElem hl]
    exact List.getElem_mem hl
  unfold bitsB at h
  have h2 := List.all_eq_true.1 h _ h1
  unfold bitAt
  generalize s.data.toList.getD i 0 = b at h2 ⊢
  by_cases hb : b = 49
  · subst hb; rfl
  · have : b = 48 := by simpa [hb] using h2
    subst this; rfl
theorem bS_cat {n m : Nat} {s t : ByteArray} (hs : s.size = n) (ht : t.size = m) (bs : bitsB s = true) (bt : bitsB t = true) : bS (sumSet n s t) (n + m) = s ++ t := by
  apply ByteArray.ext
  apply Array.toList_inj.1
  rw [bS_list, ByteArray.data_append, Array.toList_append]
  have l1 : s.data.toList.length = n := by simpa using hs
  have l2 : t.data.toList.length = m := by simpa using ht
  apply List.ext_getElem
  · rw [List.length_map, List.length_range, List.length_append, l1, l2]
  · intro i h1 h2
    simp only [List.getElem_map, List.getElem_range]
    rw [List.getElem_append]
    by_cases h4 : i < n
    · have h3 : i < s.data.toList.length := by omega
      have := bits_mem bs i (by omega)
      rw [List.getD_eq_getElem?_getD, List.getElem?_eq_getElem h3] at this
      rw [dif_pos h3]
      simp only [sumSet, h4, if_true]
      exact this.symm
    · have h3 : ¬ i < s.data.toList.length := by omega
      have h5 : i < n + m := by rw [List.length_map, List.length_range] at h1; exact h1
      have h6 : i - n < t.data.toList.length := by omega
      have := bits_mem bt (i - n) (by omega)
      rw [List.getD_eq_getElem?_getD, List.getElem?_eq_getElem h6] at this
      rw [dif_neg h3]
      simp only [sumSet, h4, if_false]
      rw [← this]
      simp only [Option.getD_some, l1]

set_option maxHeartbeats 1600000 in
theorem clS1_any (n : Nat) (s r : ByteArray) (m : Nat) (t q : ByteArray) (Hn Ha Hb : Nat) (x : Nat) (w : World) (hc : w.cell? ⟨Hn, 0, none⟩ = some (.int .i64 n)) (ha : Box 24 w Ha n s r) (hbx : Box 24 w Hb m t q)
    (hn : n ≤ 8) (hm : m ≤ 8) (hs : s.size = n) (ht : t.size = m) (hx : x < n + m) :
    Calls Tryd.prog 103 #[.int .i64 x, .pointer (some ⟨Hn, 0, none⟩), .pointer (some ⟨Ha, 0, none⟩), .pointer (some ⟨Hb, 0, none⟩)] w fun e w' => e = .returned (.bool (sumSet n s t x)) ∧ Below w.heap.size w w' := by
  obtain ⟨a0, a1, a2⟩ := ha.c
  obtain ⟨b0, b1, b2⟩ := hbx.c
  clear ha hbx
  by_cases hlt : x < n
  · have HP : Hid (sumSet n s t x = bitAt s x) := by rw [Hid, sumSet, if_pos hlt]
    go_enter Tryd.func103, Tryd.ntmps103
    go_wp2_with fail
    refine (inSet_at n s r x x _ _ rfl rfl (by omega) (by omega)).mono ?_
    rintro e w1 ⟨rfl, hw⟩
    have HW := Lib.hid hw
    clear hw
    go_wp2
    go_ret
    exact ⟨by rw [HP.out]; rfl, HW.out⟩
  · have HP : Hid (sumSet n s t x = bitAt t (x - n)) := by rw [Hid, sumSet, if_neg hlt]
    go_enter Tryd.func103, Tryd.ntmps103
    go_wp2_with fail
    refine (inSet_at m t q ((x : Int) - (n : Int)) (x - n) _ _ (by omega) rfl (by omega) (by omega)).mono ?_
    rintro e w1 ⟨rfl, hw⟩
    have HW := Lib.hid hw
    clear hw
    go_wp2
    go_ret
    exact ⟨by rw [HP.out]; rfl, HW.out⟩

set_option maxHeartbeats 1600000 in
theorem clS2_any (o : Bool) (n : Nat) (s r : ByteArray) (m : Nat) (t q : ByteArray) (Hn Ha Hb Ho : Nat) (x y : Nat) (w : World) (hc : w.cell? ⟨Hn, 0, none⟩ = some (.int .i64 n)) (hco : w.cell? ⟨Ho, 0, none⟩ = some (.bool o)) (ha : Box 24 w Ha n s r) (hbx : Box 24 w Hb m t q)
    (hn : n ≤ 8) (hm : m ≤ 8) (hr : r.size = n * n) (hq : q.size = m * m) (hx : x < n + m) (hy : y < n + m) :
    Calls Tryd.prog 104 #[.int .i64 x, .int .i64 y, .pointer (some ⟨Hn, 0, none⟩), .pointer (some ⟨Ha, 0, none⟩), .pointer (some ⟨Hb, 0, none⟩), .pointer (some ⟨Ho, 0, none⟩)] w fun e w' => e = .returned (.bool (sumRel o n r m q x y)) ∧ Below w.heap.size w w' := by
  obtain ⟨a0, a1, a2⟩ := ha.c
  obtain ⟨b0, b1, b2⟩ := hbx.c
  clear ha hbx
  have HR := Lib.hid (show _ ∧ _ from ⟨hr, hq⟩)
  clear hr hq
  have BW : Hid (Below w.heap.size w w) := Below.refl _ _
  by_cases hlt : x < n
  · by_cases hly : y < n
    · have HP : Hid (sumRel o n r m q x y = bitAt r (x * n + y)) := by rw [Hid, sumRel, if_pos ⟨hlt, hly⟩]
      go_enter Tryd.func104, Tryd.ntmps104
      go_wp2_with fail
      refine (inRel_at n s r x y x y _ _ rfl rfl rfl hlt hly hn HR.out.1).mono ?_
      rintro e w1 ⟨rfl, hw⟩
      have HW := Lib.hid hw
      clear hw
      go_wp2
      go_ret
      exact ⟨by rw [HP.out]; rfl, HW.out⟩
    · have HP : Hid (sumRel o n r m q x y = (o && true)) := by rw [Hid, sumRel, if_neg (by omega), if_neg (by omega), decide_eq_true hlt]
      cases o with
      | false =>
        go_enter Tryd.func104, Tryd.ntmps104
        go_wp2
        go_ret
        exact ⟨by rw [HP.out]; rfl, BW.out⟩
      | true =>
        go_enter Tryd.func104, Tryd.ntmps104
        go_wp2
        go_ret
        exact ⟨by rw [HP.out]; rfl, BW.out⟩
  · by_cases hly : y < n
    · have HP : Hid (sumRel o n r m q x y = (o && false)) := by rw [Hid, sumRel, if_neg (by omega), if_neg (by omega), decide_eq_false hlt]
      cases o with
      | false =>
        go_enter Tryd.func104, Tryd.ntmps104
        go_wp2
        go_ret
        exact ⟨by rw [HP.out]; rfl, BW.out⟩
      | true =>
        go_enter Tryd.func104, Tryd.ntmps104
        go_wp2
        go_ret
        exact ⟨by rw [HP.out]; rfl, BW.out⟩
    · have HP : Hid (sumRel o n r m q x y = bitAt q ((x - n) * m + (y - n))) := by rw [Hid, sumRel, if_neg (by omega), if_pos (by omega)]
      go_enter Tryd.func104, Tryd.ntmps104
      go_wp2_with fail
      refine (inRel_at m t q ((x : Int) - (n : Int)) ((y : Int) - (n : Int)) (x - n) (y - n) _ _ (by omega) (by omega) rfl (by omega) (by omega) hm HR.out.2).mono ?_
      rintro e w1 ⟨rfl, hw⟩
      have HW := Lib.hid hw
      clear hw
      go_wp2
      go_ret
      exact ⟨by rw [HP.out]; rfl, HW.out⟩

def sn (n : Int) (s r : ByteArray) (m : Int) (t q : ByteArray) : Int := if okS n s r m t q = true then n + m else 0
def ss (n : Int) (s r : ByteArray) (m : Int) (t q : ByteArray) : ByteArray := if okS n s r m t q = true then s ++ t else ⟨#[]⟩
def sr (o : Bool) (n : Int) (s r : ByteArray) (m : Int) (t q : ByteArray) : ByteArray := if okS n s r m t q = true then bR (sumRel o n.toNat r m.toNat q) (n.toNat + m.toNat) (n.toNat + m.toNat) else ⟨#[]⟩
theorem s_no {n : Int} {s r : ByteArray} {m : Int} {t q : ByteArray} (o : Bool) (h : okS n s r m t q = false) : sn n s r m t q = 0 ∧ ss n s r m t q = ⟨#[]⟩ ∧ sr o n s r m t q = ⟨#[]⟩ := by simp [sn, ss, sr, h]
theorem s_yes {N M K : Nat} {s r t q : ByteArray} (o : Bool) (hK : K = N + M) (h : okS N s r M t q = true) : sn N s r M t q = (K : Int) ∧ ss N s r M t q = s ++ t ∧ sr o N s r M t q = bR (sumRel o N r M q) K K := by
  subst hK
  simp [sn, ss, sr, h]

set_option maxHeartbeats 1600000 in
set_option maxRecDepth 100000 in
theorem sumOf_any (o : Bool) (n : Int) (s r : ByteArray) (m : Int) (t q : ByteArray) (w : World) (hs : s.size ≤ 9223372036854775807) (hr : r.size ≤ 9223372036854775807) (ht : t.size ≤ 9223372036854775807) (hq : q.size ≤ 9223372036854775807) :
    Calls Tryd.prog 50 #[.agg #[.int .i64 n, .string s, .string r], .agg #[.int .i64 m, .string t, .string q], .bool o] w fun e w' => e = .returned (.tuple #[.agg #[.int .i64 (sn n s r m t q), .string (ss n s r m t q), .string (sr o n s r m t q)], .bool (okS n s r m t q)]) ∧ Below w.heap.size w w' := by
  have BA : Hid (Box 24 ((((w.alloc (.cells #[.int .i64 n, .string s, .string r] 24)).alloc (.cells #[.int .i64 m, .string t, .string q] 24)).alloc (.cells #[.bool o] 4)).alloc (.cells #[.int .i64 0, .string ⟨#[]⟩, .string ⟨#[]⟩] 24)) w.heap.size n s r) := (((Box.new 24 w w.heap.size rfl n s r).below ((Below.refl (w.heap.size + 1) _).alloc (by simp) _) (by omega)).below ((Below.refl (w.heap.size + 1) _).alloc (by simp) _) (by omega)).below ((Below.refl (w.heap.size + 1) _).alloc (by simp only [World.size_alloc]; omega) _) (by omega)
  have BB : Hid (Box 24 ((((w.alloc (.cells #[.int .i64 n, .string s, .string r] 24)).alloc (.cells #[.int .i64 m, .string t, .string q] 24)).alloc (.cells #[.bool o] 4)).alloc (.cells #[.int .i64 0, .string ⟨#[]⟩, .string ⟨#[]⟩] 24)) (w.heap.size + 1) m t q) := ((Box.new 24 _ (w.heap.size + 1) (by simp) m t q).below ((Below.refl (w.heap.size + 1 + 1) _).alloc (by simp) _) (by omega)).below ((Below.refl (w.heap.size + 1 + 1) _).alloc (by simp) _) (by omega)
  have CO : Hid (((((w.alloc (.cells #[.int .i64 n, .string s, .string r] 24)).alloc (.cells #[.int .i64 m, .string t, .string q] 24)).alloc (.cells #[.bool o] 4)).alloc (.cells #[.int .i64 0, .string ⟨#[]⟩, .string ⟨#[]⟩] 24)).cell? ⟨w.heap.size + 1 + 1, 0, none⟩ = some (.bool o)) := cell_below (cell_new _ (.bool o) 4 _ (by simp)) ((Below.refl (w.heap.size + 1 + 1 + 1) _).alloc (by simp) _) (by omega)
  have BZ : Hid (Box 24 ((((w.alloc (.cells #[.int .i64 n, .string s, .string r] 24)).alloc (.cells #[.int .i64 m, .string t, .string q] 24)).alloc (.cells #[.bool o] 4)).alloc (.cells #[.int .i64 0, .string ⟨#[]⟩, .string ⟨#[]⟩] 24)) (w.heap.size + 1 + 1 + 1) 0 ⟨#[]⟩ ⟨#[]⟩) := Box.new 24 _ (w.heap.size + 1 + 1 + 1) (by simp) 0 ⟨#[]⟩ ⟨#[]⟩
  obtain ⟨HB, hHB⟩ : ∃ HB, HB = w.heap.size + 1 + 1 + 1 + 1 := ⟨_, rfl⟩
  have HBS : Hid (((((w.alloc (.cells #[.int .i64 n, .string s, .string r] 24)).alloc (.cells #[.int .i64 m, .string t, .string q] 24)).alloc (.cells #[.bool o] 4)).alloc (.cells #[.int .i64 0, .string ⟨#[]⟩, .string ⟨#[]⟩] 24)).heap.size = HB) := by rw [hHB]; simp [Hid]
  have AW : Hid (Below w.heap.size w ((((w.alloc (.cells #[.int .i64 n, .string s, .string r] 24)).alloc (.cells #[.int .i64 m, .string t, .string q] 24)).alloc (.cells #[.bool o] 4)).alloc (.cells #[.int .i64 0, .string ⟨#[]⟩, .string ⟨#[]⟩] 24))) := ((((Below.refl _ _).alloc (Nat.le_refl _) _).alloc (by simp) _).alloc (by simp only [World.size_alloc]; omega) _).alloc (by simp only [World.size_alloc]; omega) _
  have HHB := Lib.hid hHB
  clear hHB
  have HZ := Lib.hid (show _ ∧ _ ∧ _ ∧ _ from ⟨hs, hr, ht, hq⟩)
  clear hs hr ht hq
  go_enter Tryd.func50, Tryd.ntmps50
  go_wp2_with fail
  refine (isStructure_any n s r _ HZ.out.1 HZ.out.2.1).mono ?_
  rintro e w1 ⟨rfl, hw⟩
  have HX : Hid (Below HB ((((w.alloc (.cells #[.int .i64 n, .string s, .string r] 24)).alloc (.cells #[.int .i64 m, .string t, .string q] 24)).alloc (.cells #[.bool o] 4)).alloc (.cells #[.int .i64 0, .string ⟨#[]⟩, .string ⟨#[]⟩] 24)) w1) := hw.mono (by have := HBS.out; omega)
  clear hw
  obtain ⟨a0, a1, a2⟩ := (BA.out.below HX.out (by have := HHB.out; omega)).c
  obtain ⟨b0, b1, b2⟩ := (BB.out.below HX.out (by have := HHB.out; omega)).c
  obtain ⟨z0, z1, z2⟩ := (BZ.out.below HX.out (by have := HHB.out; omega)).c
  have co := cell_below CO.out HX.out (by have := HHB.out; omega)
  have f0 := (BZ.out.below HX.out (by have := HHB.out; omega)).free 0
  have f1 := (BZ.out.below HX.out (by have := HHB.out; omega)).free 1
  have f2 := (BZ.out.below HX.out (by have := HHB.out; omega)).free 2
  cases hv : validB n s r with
  | false =>
    have HE := Lib.hid (s_no o (show okS n s r m t q = false by rw [okS, hv]; rfl))
    have HO : Hid (okS n s r m t q = false) := by rw [Hid, okS, hv]; rfl
    clear hv
    have BE := (((BZ.out.below HX.out (by have := HHB.out; omega)).set0 0).set1 ⟨#[]⟩).set2 ⟨#[]⟩
    obtain ⟨e0, e1, e2⟩ := BE.c
    have HF := Lib.hid (show _ ∧ _ ∧ _ from ⟨e0, e1, e2⟩)
    clear e0 e1 e2 BE
    have R := Lib.hid ((((AW.out.trans (HX.out.mono (by have := HHB.out; omega))).setCell (p := ⟨w.heap.size + 1 + 1 + 1, 0, none⟩) (by simp; omega) (.int .i64 0)).setCell (p := ⟨w.heap.size + 1 + 1 + 1, 1, none⟩) (by simp; omega) (.string ⟨#[]⟩)).setCell (p := ⟨w.heap.size + 1 + 1 + 1, 2, none⟩) (by simp; omega) (.string ⟨#[]⟩))
    go_wp2
    exact bodyPost_ret (v := .tuple #[.agg #[.int .i64 0, .string ⟨#[]⟩, .string ⟨#[]⟩], .bool false]) (by simp [results, Tryd.results50, go_sem, HF.out.1, HF.out.2.1, HF.out.2.2]) rfl ⟨by rw [HE.out.1, HE.out.2.1, HE.out.2.2, HO.out], R.out⟩
  | true =>
    have HV1 := Lib.hid hv
    obtain ⟨N, rfl, hN1, hN8, hsN, hrN⟩ := valid_size hv
    have HN := Lib.hid (show _ ∧ _ ∧ _ ∧ _ from ⟨hN1, hN8, hsN, hrN⟩)
    clear hv hsN hrN
    go_wp2_with fail
    refine (isStructure_any m t q _ HZ.out.2.2.1 HZ.out.2.2.2).mono ?_
    rintro e w2 ⟨rfl, hw⟩
    have HX2 : Hid (Below HB ((((w.alloc (.cells #[.int .i64 N, .string s, .string r] 24)).alloc (.cells #[.int .i64 m, .string t, .string q] 24)).alloc (.cells #[.bool o] 4)).alloc (.cells #[.int .i64 0, .string ⟨#[]⟩, .string ⟨#[]⟩] 24)) w2) := HX.out.trans (hw.mono (by have := HBS.out; have := HX.out.size; omega))
    clear hw HX a0 a1 a2 b0 b1 b2 z0 z1 z2 f0 f1 f2 co
    have HX := HX2
    clear HX2
    obtain ⟨a0, a1, a2⟩ := (BA.out.below HX.out (by have := HHB.out; omega)).c
    obtain ⟨b0, b1, b2⟩ := (BB.out.below HX.out (by have := HHB.out; omega)).c
    obtain ⟨z0, z1, z2⟩ := (BZ.out.below HX.out (by have := HHB.out; omega)).c
    have co := cell_below CO.out HX.out (by have := HHB.out; omega)
    have f0 := (BZ.out.below HX.out (by have := HHB.out; omega)).free 0
    have f1 := (BZ.out.below HX.out (by have := HHB.out; omega)).free 1
    have f2 := (BZ.out.below HX.out (by have := HHB.out; omega)).free 2
    cases hv : validB m t q with
    | false =>
      have HE := Lib.hid (s_no o (show okS N s r m t q = false by rw [okS, hv]; simp))
      have HO : Hid (okS N s r m t q = false) := by rw [Hid, okS, hv]; simp
      clear hv
      have BE := (((BZ.out.below HX.out (by have := HHB.out; omega)).set0 0).set1 ⟨#[]⟩).set2 ⟨#[]⟩
      obtain ⟨e0, e1, e2⟩ := BE.c
      have HF := Lib.hid (show _ ∧ _ ∧ _ from ⟨e0, e1, e2⟩)
      clear e0 e1 e2 BE
      have R := Lib.hid ((((AW.out.trans (HX.out.mono (by have := HHB.out; omega))).setCell (p := ⟨w.heap.size + 1 + 1 + 1, 0, none⟩) (by simp; omega) (.int .i64 0)).setCell (p := ⟨w.heap.size + 1 + 1 + 1, 1, none⟩) (by simp; omega) (.string ⟨#[]⟩)).setCell (p := ⟨w.heap.size + 1 + 1 + 1, 2, none⟩) (by simp; omega) (.string ⟨#[]⟩))
      go_wp2
      exact bodyPost_ret (v := .tuple #[.agg #[.int .i64 0, .string ⟨#[]⟩, .string ⟨#[]⟩], .bool false]) (by simp [results, Tryd.results50, go_sem, HF.out.1, HF.out.2.1, HF.out.2.2]) rfl ⟨by rw [HE.out.1, HE.out.2.1, HE.out.2.2, HO.out], R.out⟩
    | true =>
      have HV2 := Lib.hid hv
      obtain ⟨M, rfl, hM1, hM8, hsM, hrM⟩ := valid_size hv
      have HM := Lib.hid (show _ ∧ _ ∧ _ ∧ _ from ⟨hM1, hM8, hsM, hrM⟩)
      clear hv hsM hrM
      by_cases hk : (N : Int) + (M : Int) ≤ 8
      · have HO : Hid (okS N s r M t q = true) := by rw [Hid, okS, HV1.out, HV2.out]; simpa using hk
        obtain ⟨K, hK⟩ : ∃ K, K = N + M := ⟨_, rfl⟩
        have HE := Lib.hid (s_yes o hK HO.out)
        have hk8 : K ≤ 8 := by omega
        have HK8 := Lib.hid hk8
        have HKK := Lib.hid hK
        clear hk8 hK
        have HBIT := Lib.hid (bS_cat (s := s) (t := t) HN.out.2.2.1 HM.out.2.2.1 (validB_iff.1 HV1.out).2.2.2.1 (validB_iff.1 HV2.out).2.2.2.1)
        have HXN : Hid (Below w2.heap.size w2 (w2.alloc (.cells #[.int .i64 N] 3))) := (Below.refl _ _).alloc (Nat.le_refl _) _
        have BAX := Lib.hid ((BA.out.below HX.out (by have := HHB.out; omega)).below HXN.out (by have := HX.out.size; have := HBS.out; have := HHB.out; omega))
        have BBX := Lib.hid ((BB.out.below HX.out (by have := HHB.out; omega)).below HXN.out (by have := HX.out.size; have := HBS.out; have := HHB.out; omega))
        have BZX := Lib.hid ((BZ.out.below HX.out (by have := HHB.out; omega)).below HXN.out (by have := HX.out.size; have := HBS.out; have := HHB.out; omega))
        have COX := Lib.hid (cell_below (cell_below CO.out HX.out (by have := HHB.out; omega)) HXN.out (by have := HX.out.size; have := HBS.out; have := HHB.out; omega))
        have CNX : Hid ((w2.alloc (.cells #[.int .i64 N] 3)).cell? ⟨w2.heap.size, 0, none⟩ = some (.int .i64 N)) := cell_new _ _ _ _ rfl
        obtain ⟨a3, a4, a5⟩ := BAX.out.c
        obtain ⟨b3, b4, b5⟩ := BBX.out.c
        have cn := CNX.out
        go_wp2_with fail
        clear a3 a4 a5 b3 b4 b5 cn
        refine (make_at K ((N : Int) + (M : Int)) (by rw [HKK.out]; omega) HK8.out _ _ _ _ (sumSet N s t) (sumRel o N r M q) _ (enters_of Tryd.func103 (by kernel_rfl) rfl) (enters_of Tryd.func104 (by kernel_rfl) rfl) ?_ ?_).mono ?_
        · intro W hW x hx
          exact clS1_any N s r M t q w2.heap.size w.heap.size (w.heap.size + 1) x W (cell_below CNX.out hW (cell_lt CNX.out)) (BAX.out.below hW BAX.out.lt) (BBX.out.below hW BBX.out.lt) hN8 hM8 HN.out.2.2.1 HM.out.2.2.1 (by have := HKK.out; omega)
        · intro W hW x y hx hy
          exact clS2_any o N s r M t q w2.heap.size w.heap.size (w.heap.size + 1) (w.heap.size + 1 + 1) x y W (cell_below CNX.out hW (cell_lt CNX.out)) (cell_below COX.out hW (cell_lt COX.out)) (BAX.out.below hW BAX.out.lt) (BBX.out.below hW BBX.out.lt) hN8 hM8 HN.out.2.2.2 HM.out.2.2.2 (by have := HKK.out; omega) (by have := HKK.out; omega)
        rintro e w3 ⟨rfl, hw⟩
        have HX3 : Hid (Below HB ((((w.alloc (.cells #[.int .i64 N, .string s, .string r] 24)).alloc (.cells #[.int .i64 M, .string t, .string q] 24)).alloc (.cells #[.bool o] 4)).alloc (.cells #[.int .i64 0, .string ⟨#[]⟩, .string ⟨#[]⟩] 24)) w3) := (HX.out.trans (HXN.out.mono (by have := HBS.out; have := HX.out.size; omega))).trans (hw.mono (by have := HBS.out; have := HX.out.size; simp only [World.size_alloc]; omega))
        have BZ3 := Lib.hid (BZX.out.below hw BZX.out.lt)
        clear hw HX a0 a1 a2 b0 b1 b2 z0 z1 z2 f0 f1 f2 co
        obtain ⟨z0, z1, z2⟩ := BZ3.out.c
        have f0 := BZ3.out.free 0
        have f1 := BZ3.out.free 1
        have f2 := BZ3.out.free 2
        have BE := ((BZ3.out.set0 (K : Int)).set1 (bS (sumSet N s t) K)).set2 (bR (sumRel o N r M q) K K)
        obtain ⟨e0, e1, e2⟩ := BE.c
        have HF := Lib.hid (show _ ∧ _ ∧ _ from ⟨e0, e1, e2⟩)
        clear e0 e1 e2 BE
        have R := Lib.hid ((((AW.out.trans (HX3.out.mono (by have := HHB.out; omega))).setCell (p := ⟨w.heap.size + 1 + 1 + 1, 0, none⟩) (by simp; omega) (.int .i64 (K : Int))).setCell (p := ⟨w.heap.size + 1 + 1 + 1, 1, none⟩) (by simp; omega) (.string (bS (sumSet N s t) K))).setCell (p := ⟨w.heap.size + 1 + 1 + 1, 2, none⟩) (by simp; omega) (.string (bR (sumRel o N r M q) K K)))
        go_wp2
        exact bodyPost_ret (v := .tuple #[.agg #[.int .i64 (K : Int), .string (bS (sumSet N s t) K), .string (bR (sumRel o N r M q) K K)], .bool true]) (by simp [results, Tryd.results50, go_sem, HF.out.1, HF.out.2.1, HF.out.2.2]) rfl ⟨by rw [HE.out.1, HE.out.2.1, HE.out.2.2, HO.out, ← HBIT.out, HKK.out], R.out⟩
      · have HE := Lib.hid (s_no o (show okS N s r M t q = false by rw [okS]; simp; intros; omega))
        have HO : Hid (okS N s r M t q = false) := by rw [Hid, okS]; simp; intros; omega
        have BE := (((BZ.out.below HX.out (by have := HHB.out; omega)).set0 0).set1 ⟨#[]⟩).set2 ⟨#[]⟩
        obtain ⟨e0, e1, e2⟩ := BE.c
        have HF := Lib.hid (show _ ∧ _ ∧ _ from ⟨e0, e1, e2⟩)
        clear e0 e1 e2 BE
        have R := Lib.hid ((((AW.out.trans (HX.out.mono (by have := HHB.out; omega))).setCell (p := ⟨w.heap.size + 1 + 1 + 1, 0, none⟩) (by simp; omega) (.int .i64 0)).setCell (p := ⟨w.heap.size + 1 + 1 + 1, 1, none⟩) (by simp; omega) (.string ⟨#[]⟩)).setCell (p := ⟨w.heap.size + 1 + 1 + 1, 2, none⟩) (by simp; omega) (.string ⟨#[]⟩))
        go_wp2
        exact bodyPost_ret (v := .tuple #[.agg #[.int .i64 0, .string ⟨#[]⟩, .string ⟨#[]⟩], .bool false]) (by simp [results, Tryd.results50, go_sem, HF.out.1, HF.out.2.1, HF.out.2.2]) rfl ⟨by rw [HE.out.1, HE.out.2.1, HE.out.2.2, HO.out], R.out⟩

set_option maxHeartbeats 1600000 in
theorem implDisjointSum_any (n : Int) (s r : ByteArray) (m : Int) (t q : ByteArray) (w : World) (hs : s.size ≤ 9223372036854775807) (hr : r.size ≤ 9223372036854775807) (ht : t.size ≤ 9223372036854775807) (hq : q.size ≤ 9223372036854775807) :
    Calls Tryd.prog 13 #[.agg #[.int .i64 n, .string s, .string r], .agg #[.int .i64 m, .string t, .string q]] w fun e w' => e = .returned (.tuple #[.agg #[.int .i64 (sn n s r m t q), .string (ss n s r m t q), .string (sr false n s r m t q)], .bool (okS n s r m t q)]) ∧ Below w.heap.size w w' := by
  have BZ : Hid (Box 24 (((w.alloc (.cells #[.int .i64 n, .string s, .string r] 24)).alloc (.cells #[.int .i64 m, .string t, .string q] 24)).alloc (.cells #[.int .i64 0, .string ⟨#[]⟩, .string ⟨#[]⟩] 24)) (w.heap.size + 1 + 1) 0 ⟨#[]⟩ ⟨#[]⟩) := Box.new 24 _ (w.heap.size + 1 + 1) (by simp) 0 ⟨#[]⟩ ⟨#[]⟩
  have AW : Hid (Below w.heap.size w (((w.alloc (.cells #[.int .i64 n, .string s, .string r] 24)).alloc (.cells #[.int .i64 m, .string t, .string q] 24)).alloc (.cells #[.int .i64 0, .string ⟨#[]⟩, .string ⟨#[]⟩] 24))) := (((Below.refl _ _).alloc (Nat.le_refl _) _).alloc (by simp) _).alloc (by simp only [World.size_alloc]; omega) _
  have HZ := Lib.hid (show _ ∧ _ ∧ _ ∧ _ from ⟨hs, hr, ht, hq⟩)
  clear hs hr ht hq
  go_enter Tryd.func13, Tryd.ntmps13
  go_wp2_with fail
  refine (sumOf_any false n s r m t q _ HZ.out.1 HZ.out.2.1 HZ.out.2.2.1 HZ.out.2.2.2).mono ?_
  rintro e w1 ⟨rfl, hw⟩
  have HX := Lib.hid hw
  clear hw
  have BZ1 := Lib.hid (BZ.out.below HX.out BZ.out.lt)
  obtain ⟨z0, z1, z2⟩ := BZ1.out.c
  have f0 := BZ1.out.free 0
  have f1 := BZ1.out.free 1
  have f2 := BZ1.out.free 2
  obtain ⟨e0, e1, e2⟩ := (((BZ1.out.set0 (sn n s r m t q)).set1 (ss n s r m t q)).set2 (sr false n s r m t q)).c
  have HF := Lib.hid (show _ ∧ _ ∧ _ from ⟨e0, e1, e2⟩)
  clear e0 e1 e2
  have R := Lib.hid ((((AW.out.trans (HX.out.mono AW.out.size)).setCell (p := ⟨w.heap.size + 1 + 1, 0, none⟩) (by simp; omega) (.int .i64 (sn n s r m t q))).setCell (p := ⟨w.heap.size + 1 + 1, 1, none⟩) (by simp; omega) (.string (ss n s r m t q))).setCell (p := ⟨w.heap.size + 1 + 1, 2, none⟩) (by simp; omega) (.string (sr false n s r m t q)))
  go_wp2
  exact bodyPost_ret (v := .tuple #[.agg #[.int .i64 (sn n s r m t q), .string (ss n s r m t q), .string (sr false n s r m t q)], .bool (okS n s r m t q)]) (by simp [results, Tryd.results13, go_sem, HF.out.1, HF.out.2.1, HF.out.2.2]) rfl ⟨rfl, R.out⟩

theorem disj.implE (n : Int) (s r : ByteArray) (m : Int) (t q : ByteArray) (_ : (Lit.int .i64 n).wf = true) (_ : (Lit.int .i64 m).wf = true) : s.size + r.size + (t.size + q.size) ≤ 1048576 → ∀ (w : World),
    Calls Tryd.prog 13 #[.agg #[.int .i64 n, .string s, .string r], .agg #[.int .i64 m, .string t, .string q]] w fun e w' => e = .returned (.tuple #[.agg #[.int .i64 (sn n s r m t q), .string (ss n s r m t q), .string (sr false n s r m t q)], .bool (okS n s r m t q)]) ∧ Below w.heap.size w w' :=
  fun h w => implDisjointSum_any n s r m t q w (by omega) (by omega) (by omega) (by omega)

set_option maxHeartbeats 1600000 in
theorem implOrderedSum_any (n : Int) (s r : ByteArray) (m : Int) (t q : ByteArray) (w : World) (hs : s.size ≤ 9223372036854775807) (hr : r.size ≤ 9223372036854775807) (ht : t.size ≤ 9223372036854775807) (hq : q.size ≤ 9223372036854775807) :
    Calls Tryd.prog 14 #[.agg #[.int .i64 n, .string s, .string r], .agg #[.int .i64 m, .string t, .string q]] w fun e w' => e = .returned (.tuple #[.agg #[.int .i64 (sn n s r m t q), .string (ss n s r m t q), .string (sr true n s r m t q)], .bool (okS n s r m t q)]) ∧ Below w.heap.size w w' := by
  have BZ : Hid (Box 24 (((w.alloc (.cells #[.int .i64 n, .string s, .string r] 24)).alloc (.cells #[.int .i64 m, .string t, .string q] 24)).alloc (.cells #[.int .i64 0, .string ⟨#[]⟩, .string ⟨#[]⟩] 24)) (w.heap.size + 1 + 1) 0 ⟨#[]⟩ ⟨#[]⟩) := Box.new 24 _ (w.heap.size + 1 + 1) (by simp) 0 ⟨#[]⟩ ⟨#[]⟩
  have AW : Hid (Below w.heap.size w (((w.alloc (.cells #[.int .i64 n, .string s, .string r] 24)).alloc (.cells #[.int .i64 m, .string t, .string q] 24)).alloc (.cells #[.int .i64 0, .string ⟨#[]⟩, .string ⟨#[]⟩] 24))) := (((Below.refl _ _).alloc (Nat.le_refl _) _).alloc (by simp) _).alloc (by simp only [World.size_alloc]; omega) _
  have HZ := Lib.hid (show _ ∧ _ ∧ _ ∧ _ from ⟨hs, hr, ht, hq⟩)
  clear hs hr ht hq
  go_enter Tryd.func14, Tryd.ntmps14
  go_wp2_with fail
  refine (sumOf_any true n s r m t q _ HZ.out.1 HZ.out.2.1 HZ.out.2.2.1 HZ.out.2.2.2).mono ?_
  rintro e w1 ⟨rfl, hw⟩
  have HX := Lib.hid hw
  clear hw
  have BZ1 := Lib.hid (BZ.out.below HX.out BZ.out.lt)
  obtain ⟨z0, z1, z2⟩ := BZ1.out.c
  have f0 := BZ1.out.free 0
  have f1 := BZ1.out.free 1
  have f2 := BZ1.out.free 2
  obtain ⟨e0, e1, e2⟩ := (((BZ1.out.set0 (sn n s r m t q)).set1 (ss n s r m t q)).set2 (sr true n s r m t q)).c
  have HF := Lib.hid (show _ ∧ _ ∧ _ from ⟨e0, e1, e2⟩)
  clear e0 e1 e2
  have R := Lib.hid ((((AW.out.trans (HX.out.mono AW.out.size)).setCell (p := ⟨w.heap.size + 1 + 1, 0, none⟩) (by simp; omega) (.int .i64 (sn n s r m t q))).setCell (p := ⟨w.heap.size + 1 + 1, 1, none⟩) (by simp; omega) (.string (ss n s r m t q))).setCell (p := ⟨w.heap.size + 1 + 1, 2, none⟩) (by simp; omega) (.string (sr true n s r m t q)))
  go_wp2
  exact bodyPost_ret (v := .tuple #[.agg #[.int .i64 (sn n s r m t q), .string (ss n s r m t q), .string (sr true n s r m t q)], .bool (okS n s r m t q)]) (by simp [results, Tryd.results14, go_sem, HF.out.1, HF.out.2.1, HF.out.2.2]) rfl ⟨rfl, R.out⟩

theorem ordr.implE (n : Int) (s r : ByteArray) (m : Int) (t q : ByteArray) (_ : (Lit.int .i64 n).wf = true) (_ : (Lit.int .i64 m).wf = true) : s.size + r.size + (t.size + q.size) ≤ 1048576 → ∀ (w : World),
    Calls Tryd.prog 14 #[.agg #[.int .i64 n, .string s, .string r], .agg #[.int .i64 m, .string t, .string q]] w fun e w' => e = .returned (.tuple #[.agg #[.int .i64 (sn n s r m t q), .string (ss n s r m t q), .string (sr true n s r m t q)], .bool (okS n s r m t q)]) ∧ Below w.heap.size w w' :=
  fun h w => implOrderedSum_any n s r m t q w (by omega) (by omega) (by omega) (by omega)

end Go.Proofs.YtpcnoiigbmiejaaDoor.sum
