/- Several texts in one: Cmp, SortF, SortI, DescI, CompF, Coloured, ColA, ColsA. -/
import Derived.Test.YtpcnoiigbmiejaaGreatDoorPkB
import Derived.Test.YtpcnoiigbmiejaaGreatDoorShelfG
import Derived.Lib.OwnBridge
import Derived.Lib.AppendIntMem
import Derived.Test.YtpcnoiigbmiejaaGreatDoorPkA
import Derived.Shelf.Sort.Plain
import Derived.Shelf.Slices.In.SortNone
import Derived.Test.YtpcnoiigbmiejaaGreatDoorPk1
import Derived.Lib.SliceRun
/- The library's order of lists of numbers: cmp.Compare, slices.Compare, slices.Equal. -/
namespace Go.Proofs.YtpcnoiigbmiejaaGreatDoor.cmp
set_option linter.unusedVariables false
set_option linter.unusedSimpArgs false
open Go.ChangeShapes Go.WideShapes Go.ChangeAt Go.RowKit
open Go.Proofs.YtpcnoiigbmiejaaGreatDoor.lib Go.Proofs.YtpcnoiigbmiejaaGreatDoor.sll Go.Proofs.YtpcnoiigbmiejaaGreatDoor.colp Go.Proofs.YtpcnoiigbmiejaaGreatDoor.less

theorem isNaN_any (x : Int) (w : World) :
    Calls Tryz.prog 167 #[.int .i64 x] w fun e w' => e = .returned (.bool false) ∧ w = w' := by
  have t1 : (x != x) = false := by simp
  go_enter Tryz.func167, Tryz.ntmps167
  go_wp2
  go_ret
  exact ⟨rfl, rfl⟩
/-- -1, 0, 1 -/
def cmpI (x y : Int) : Int := if x < y then -1 else if y < x then 1 else 0
theorem cmpI_ne {x y : Int} (h : x ≠ y) : cmpI x y ≠ 0 := by
  unfold cmpI
  by_cases h1 : x < y
  · rw [if_pos h1]; decide
  · rw [if_neg h1, if_pos (by omega)]; decide
theorem compare_any (x y : Int) (w : World) :
    Calls Tryz.prog 155 #[.int .i64 x, .int .i64 y] w fun e w' => e = .returned (.int .i64 (cmpI x y)) ∧ w = w' := by
  obtain ⟨R, hR⟩ : ∃ R, R = cmpI x y := ⟨_, rfl⟩
  have HR := Lib.hid hR
  rw [← hR]
  clear hR
  go_enter Tryz.func155, Tryz.ntmps155
  go_wp2_with fail
  refine (isNaN_any _ _).mono ?_
  rintro e w1 ⟨rfl, rfl⟩
  go_wp2_with fail
  refine (isNaN_any _ _).mono ?_
  rintro e w1 ⟨rfl, rfl⟩
  by_cases h1 : x < y
  · have hf : Hid (R = -1) := by rw [Hid, HR.out, cmpI, if_pos h1]
    go_wp2
    go_ret
    exact ⟨by rw [hf.out]; rfl, rfl⟩
  · by_cases h2 : y < x
    · have hf : Hid (R = 1) := by rw [Hid, HR.out, cmpI, if_neg h1, if_pos h2]
      go_wp2
      go_ret
      exact ⟨by rw [hf.out]; rfl, rfl⟩
    · have hf : Hid (R = 0) := by rw [Hid, HR.out, cmpI, if_neg h1, if_neg h2]
      go_wp2
      go_ret
      exact ⟨by rw [hf.out]; rfl, rfl⟩

/-- -1, 0, 1 -/
def cmpL (l m : List Int) : Int := if lessL l m = true then -1 else if lessL m l = true then 1 else 0
theorem cmpL_lt {l m : List Int} : decide (cmpL l m < 0) = lessL l m := by
  unfold cmpL
  cases h : lessL l m with
  | true => simp
  | false =>
    rw [if_neg (by simp)]
    split <;> simp
theorem cmpL_at {l m : List Int} {k : Nat} (h : l.take k = m.take k) (h1 : k < l.length) (h2 : k < m.length) (hne : l.getD k 0 ≠ m.getD k 0) : cmpL l m = cmpI (l.getD k 0) (m.getD k 0) := by
  rw [cmpL, cmpI, less_at h h1 h2 hne, less_at h.symm h2 h1 (fun e => hne e.symm)]
  simp
theorem cmpL_end {l m : List Int} {k : Nat} (h : l.take k = m.take k) (h1 : k ≤ l.length) (h2 : k ≤ m.length) (hk : l.length = k ∨ m.length = k) : cmpL l m = cmpI l.length m.length := by
  rw [cmpL, cmpI, less_end h h1 h2 hk, less_end h.symm h2 h1 hk.symm]
  simp

set_option maxHeartbeats 1600000 in
theorem compareS_any (v v2 : Value) (l m : List Int) (w : World) (h : Reads w v l) (h2 : Reads w v2 m) (hn : l.length ≤ 17592186044416) (hn2 : m.length ≤ 17592186044416) :
    Calls Tryz.prog 117 #[v, v2] w fun e w' => e = .returned (.int .i64 (cmpL l m)) ∧ ∃ q, w' = w.drewN q := by
  obtain ⟨ao, ca, rfl, hl, _⟩ := h
  obtain ⟨bo, cb, rfl, hm, _⟩ := h2
  obtain ⟨n, hnl⟩ : ∃ n, n = l.length := ⟨_, rfl⟩
  obtain ⟨p, hpm⟩ : ∃ p, p = m.length := ⟨_, rfl⟩
  rw [← hnl] at hn ⊢
  rw [← hpm] at hn2 ⊢
  have HN := Lib.hid (show _ ∧ _ from ⟨hnl, hpm⟩)
  have HL := Lib.hid hl
  have HM := Lib.hid hm
  obtain ⟨R, hR⟩ : ∃ R, R = cmpL l m := ⟨_, rfl⟩
  have HR := Lib.hid hR
  rw [← hR]
  clear hl hm hnl hpm hR
  go_enter Tryz.func117, Tryz.ntmps117
  go_wp2
  go_loopw [11] (fun i wr => ∃ k : Nat, k ≤ n ∧ k ≤ p ∧ i = .int .i64 k ∧ l.take k = m.take k ∧ ∃ j, wr = w.drewN j) (fun i _ => n - (intOf i).toNat)
  case atStart => exact ⟨0, Nat.zero_le _, Nat.zero_le _, rfl, rfl, 0, rfl⟩
  case round =>
    obtain ⟨k, hk, hk2, rfl, he, j, rfl⟩ := hrel
    by_cases hlt : k < n
    · have hl' : ∃ b off, ao = some ⟨b, off, none⟩ ∧ ∀ i, i < l.length → w.cell? ⟨b, off + i, none⟩ = some (.int .i64 (l.getD i 0)) := by
        rcases HL.out with h | h
        · have := HN.out.1; rw [h] at this; simp at this; omega
        · exact h
      obtain ⟨b, off, rfl, hc⟩ := hl'
      have c1 := hc k (by have := HN.out; omega)
      obtain ⟨x, hx⟩ : ∃ x, x = l.getD k 0 := ⟨_, rfl⟩
      rw [← hx] at c1
      by_cases hlt2 : k < p
      · have hm' : ∃ b off, bo = some ⟨b, off, none⟩ ∧ ∀ i, i < m.length → w.cell? ⟨b, off + i, none⟩ = some (.int .i64 (m.getD i 0)) := by
          rcases HM.out with h | h
          · have := HN.out.2; rw [h] at this; simp at this; omega
          · exact h
        obtain ⟨b', off', rfl, hc'⟩ := hm'
        have c2 := hc' k (by have := HN.out; omega)
        obtain ⟨y, hy⟩ : ∃ y, y = m.getD k 0 := ⟨_, rfl⟩
        rw [← hy] at c2
        have HX : Hid (x = l.getD k 0 ∧ y = m.getD k 0) := ⟨hx, hy⟩
        have HE := Lib.hid he
        clear hc hc' hx hy he HL HM
        go_wp2_with fail
        refine (compare_any x y _).mono ?_
        rintro e w1 ⟨rfl, rfl⟩
        by_cases hxy : x = y
        · have hb : cmpI x y = 0 := by rw [cmpI, if_neg (by omega), if_neg (by omega)]
          rw [hb]
          have HXY := Lib.hid hxy
          clear hb hxy
          go_wp2
          go_roundw
          case rel => exact ⟨k + 1, by omega, by omega, by go_num, take_step l m k (by have := HN.out; omega) (by have := HN.out; omega) HE.out (by rw [← HX.out.1, ← HX.out.2]; exact HXY.out), j, rfl⟩
          case measure => simp [intOf]; omega
        · obtain ⟨z, hz⟩ : ∃ z, z = cmpI x y := ⟨_, rfl⟩
          have hb : (z != 0) = true := by
            have : z ≠ 0 := by rw [hz]; exact cmpI_ne hxy
            simpa using this
          have hf : R = z := by
            have h := HX.out
            rw [HR.out, hz, h.1, h.2]
            exact cmpL_at HE.out (by have := HN.out; omega) (by have := HN.out; omega) (by rw [← h.1, ← h.2]; exact hxy)
          rw [← hz]
          have HF := Lib.hid hf
          clear hf hxy hz
          go_wp2
          go_ret
          exact ⟨by rw [HF.out]; rfl, j, rfl⟩
      · have hf : R = 1 := by
          have h := HN.out
          rw [HR.out, cmpL_end he (by omega) (by omega) (.inr (by omega)), cmpI, if_neg (by omega), if_pos (by omega)]
        have HF := Lib.hid hf
        have HE := Lib.hid he
        clear hf he hx hc
        go_wp2
        go_ret
        exact ⟨by rw [HF.out]; rfl, j, rfl⟩
    · have hf : R = if n < p then -1 else 0 := by
        have h := HN.out
        rw [HR.out, cmpL_end he (by omega) (by omega) (.inl (by omega)), cmpI, ← h.1, ← h.2]
        by_cases hnp : n < p
        · rw [if_pos (by omega), if_pos hnp]
        · rw [if_neg (by omega), if_neg (by omega), if_neg hnp]
      have HF := Lib.hid hf
      clear hf he
      by_cases hnp : n < p
      · go_wp2
        go_ret
        exact ⟨by rw [HF.out, if_pos hnp]; rfl, j, rfl⟩
      · go_wp2
        go_ret
        exact ⟨by rw [HF.out, if_neg hnp]; rfl, j, rfl⟩

theorem equal_any (v v2 : Value) (l m : List Int) (w : World) (h : Reads w v l) (h2 : Reads w v2 m) (hl0 : l ≠ []) (hm0 : m ≠ []) (hn : l.length ≤ 17592186044416) (hn2 : m.length ≤ 17592186044416) :
    Calls Tryz.prog 66 #[v, v2] w fun e w' => e = .returned (.bool (decide (l = m))) ∧ ∃ q, w' = w.drewN q := by
  obtain ⟨ao, ca, rfl, hl, _⟩ := h
  obtain ⟨bo, cb, rfl, hm, _⟩ := h2
  rcases hl with hl | ⟨b, off, rfl, hc⟩
  · exact absurd hl hl0
  rcases hm with hm | ⟨b', off', rfl, hc'⟩
  · exact absurd hm hm0
  refine (Any.slices_Equal_int Tryz.lays111 b off l.length ca b' off' m.length cb l m w (Nat.le_refl _) (Nat.le_refl _) (by omega) (by omega) hc hc').mono ?_
  rintro e w' ⟨rfl, hq⟩
  refine ⟨?_, hq⟩
  rw [List.take_length, List.take_length]
  have e : (l == m) = decide (l = m) := by rw [Bool.eq_iff_iff]; simp
  rw [e]
end Go.Proofs.YtpcnoiigbmiejaaGreatDoor.cmp

/- slices.SortFunc and slices.BinarySearchFunc at a list of lists of numbers. -/
namespace Go.Proofs.YtpcnoiigbmiejaaGreatDoor.cmp
set_option linter.unusedVariables false
set_option linter.unusedSimpArgs false
open Go.ChangeShapes Go.WideShapes Go.ChangeAt Go.RowKit Go.Sort
open Go.Proofs.YtpcnoiigbmiejaaGreatDoor.lib Go.Proofs.YtpcnoiigbmiejaaGreatDoor.sll Go.Proofs.YtpcnoiigbmiejaaGreatDoor.colp Go.Proofs.YtpcnoiigbmiejaaGreatDoor.less

theorem grown_sort {enc : Nat → Value} {w : World} {g m : Nat} {dk : Array Nat} {os : Array Obj} : w.grownBy (sortWorld enc w g 0 m dk os) (some g) := by
  refine ⟨rfl, rfl, rfl, ?_, fun k hk hne => ?_⟩
  · unfold sortWorld
    rw [size_grow, size_putRow]
    exact Nat.le_add_right _ _
  · have hne' : g ≠ k := fun e => hne (by rw [e])
    unfold sortWorld
    rw [heap_grow_old _ _ (by rw [size_putRow]; exact hk)]
    show ((Sort.ahead w m).heap.modify g _)[k]? = _
    rw [Array.getElem?_modify, if_neg hne']
    rfl
theorem below_sort {enc : Nat → Value} {w : World} {B g m : Nat} {dk : Array Nat} {os : Array Obj} (hB : B ≤ g) (hg : g < w.heap.size) : Below B w (sortWorld enc w g 0 m dk os) := by
  have h := grown_sort (enc := enc) (w := w) (g := g) (m := m) (dk := dk) (os := os)
  exact ⟨h.os, h.tape, h.output, h.size, fun k hk => h.block k (by omega) (fun e => by have := Option.some.inj e; omega)⟩
/-- the values by their numbers -/
def encU (us : List Value) (n : Nat) (i : Nat) : Value := us.getD (i % n) undef
theorem encU_map {us : List Value} {n : Nat} (hn : us.length = n) : (List.range n).map (encU us n) = us := by
  refine List.ext_getElem (by simp [hn]) fun i h1 h2 => ?_
  have hi : i < n := by simpa using h1
  rw [List.getElem_map, List.getElem_range, encU, Nat.mod_eq_of_lt hi, List.getD_eq_getElem?_getD, List.getElem?_eq_getElem h2]; rfl
/-- the lists by their numbers -/
def keyL (L : List (List Int)) (n : Nat) (i : Nat) : List Int := L.getD (i % n) []
theorem keyL_map {L : List (List Int)} {n : Nat} (hn : L.length = n) : (List.range n).map (keyL L n) = L := by
  refine List.ext_getElem (by simp [hn]) fun i h1 h2 => ?_
  have hi : i < n := by simpa using h1
  rw [List.getElem_map, List.getElem_range, keyL, Nat.mod_eq_of_lt hi, List.getD_eq_getElem?_getD, List.getElem?_eq_getElem h2]; rfl
theorem lt_key (L : List (List Int)) (n x y : Nat) : ltOf (fun x y => cmpL (keyL L n x) (keyL L n y)) x y = lessL (keyL L n x) (keyL L n y) := by
  rw [ltOf, cmpL_lt]
theorem swo_key (L : List (List Int)) (n : Nat) : SWO (ltOf (fun x y => cmpL (keyL L n x) (keyL L n y))) := by
  refine ⟨fun x => ?_, fun x y z h1 h2 => ?_, fun x y z h1 h2 => ?_⟩
  · rw [lt_key]; exact less_irr _
  · rw [lt_key] at h1 h2 ⊢; exact less_trans h1 h2
  · rw [lt_key] at h1 h2 ⊢
    cases h : lessL (keyL L n x) (keyL L n z) with
    | false => rfl
    | true =>
      cases h3 : lessL (keyL L n y) (keyL L n x) with
      | true => rw [less_trans h3 h] at h2; cases h2
      | false => rw [less_tri h1 h3] at h; rw [h] at h2; cases h2
theorem reads_sort {enc : Nat → Value} {w : World} {g m : Nat} {dk : Array Nat} {os : Array Obj} {u : Value} {l : List Int} (h : Reads w u l) (hne : u.ownBlock ≠ some g) : Reads (sortWorld enc w g 0 m dk os) u l :=
  reads_kept h grown_sort fun k hk => by have := Option.some.inj hk; subst this; exact hne
theorem sl_one {w : World} {u : Value} {l : List Int} (h : Reads w u l) : u.oneCell' = true := by
  obtain ⟨ao, cap, rfl, _⟩ := h; rfl

/-- what the sort is told -/
structure RowU (w : World) (B g n cap : Nat) (us : List Value) (L : List (List Int)) : Prop where
  n1 : 1 ≤ n
  hu : us.length = n
  hL : L.length = n
  own : w.ownsRow B 29 1 (.slice (some ⟨g, 0, none⟩) n cap) n us
  rd : ∀ i, i < n → L.getD i [] ≠ [] ∧ Reads w (us.getD i undef) (L.getD i []) ∧ (us.getD i undef).ownBlock ≠ some g
  sm : ∀ l, l ∈ L → l.length ≤ 1000
theorem RowU.of {w : World} {B g n cap : Nat} {L : List (List Int)} (h : OwnL w B (.slice (some ⟨g, 0, none⟩) n cap) L) (hn : L.length = n) (h1 : 1 ≤ n) (hs : ∀ l, l ∈ L → l.length ≤ 1000) : ∃ us, RowU w B g n cap us L := by
  obtain ⟨us, hl, ho, hr⟩ := h
  exact ⟨us, h1, by omega, hn, by rw [← show us.length = n by omega]; rw [show us.length = n by omega] at ho ⊢; exact ho, fun i hi => ⟨(hr i (by omega)).1, (hr i (by omega)).2.1, (hr i (by omega)).2.2 g rfl⟩, hs⟩
theorem RowU.key {w : World} {B g n cap : Nat} {us : List Value} {L : List (List Int)} (h : RowU w B g n cap us L) (x : Nat) : Reads w (encU us n x) (keyL L n x) ∧ (encU us n x).ownBlock ≠ some g ∧ (keyL L n x).length ≤ 1000 := by
  have hx : x % n < n := Nat.mod_lt _ h.n1
  refine ⟨(h.rd _ hx).2.1, (h.rd _ hx).2.2, h.sm _ ?_⟩
  unfold keyL
  rw [List.getD_eq_getElem?_getD, List.getElem?_eq_getElem (by rw [h.hL]; exact hx)]
  exact List.getElem_mem _
theorem RowU.cmp {w : World} {B g n cap : Nat} {us : List Value} {L : List (List Int)} (h : RowU w B g n cap us L) : CmpLays1 Tryz.prog 117 #[] (encU us n) (fun x y => cmpL (keyL L n x) (keyL L n y)) g 0 n w := by
  intro m os dk hs x y
  have hx := h.key x
  have hy := h.key y
  refine (compareS_any (encU us n x) (encU us n y) (keyL L n x) (keyL L n y) _ (reads_sort hx.1 hx.2.1) (reads_sort hy.1 hy.2.1) (by omega) (by omega)).mono ?_
  rintro e w' ⟨rfl, q, rfl⟩
  exact ⟨rfl, q, #[], by rw [grow_empty]⟩
theorem RowU.one {w : World} {B g n cap : Nat} {us : List Value} {L : List (List Int)} (h : RowU w B g n cap us L) : OneCell (encU us n) := fun x => sl_one (h.key x).1
theorem RowU.holds {w : World} {B g n cap : Nat} {us : List Value} {L : List (List Int)} (h : RowU w B g n cap us L) : Holds (encU us n) w g 0 (List.range n).toArray ∧ g < w.heap.size ∧ B ≤ g := by
  have ho : w.ownsRow B 29 1 (.slice (some ⟨g, 0, none⟩) n cap) n ((List.range n).map (encU us n)) := by rw [encU_map h.hu]; exact h.own
  obtain ⟨g', cap', hv, hb, hlt, -, -, -, hh⟩ := Go.Lib.holds_of_ownsRow (zs := List.range n) ho (by simp)
  simp only [Value.slice.injEq, Option.some.injEq, Addr.mk.injEq] at hv
  obtain ⟨⟨rfl, -⟩, -⟩ := hv
  exact ⟨hh, hlt, hb⟩

theorem RowU.put {w : World} {B g n cap : Nat} {us : List Value} {L : List (List Int)} (hR : RowU w B g n cap us L) (m : Nat) (d' : Array Nat) (os : Array Obj) (hz' : d'.size = n) : OwnL (sortWorld (encU us n) w g 0 m d' os) B (.slice (some ⟨g, 0, none⟩) n cap) (d'.toList.map (keyL L n)) := by
  have ho : w.ownsRow B 29 1 (.slice (some ⟨g, 0, none⟩) n cap) n ((List.range n).map (encU us n)) := by rw [encU_map hR.hu]; exact hR.own
  have h2 := Go.Lib.ownsRow_putRow (q := m) (ys := d'.toList) ho (by simpa using hz') (Nat.le_refl n)
  rw [List.take_of_length_le (by simp [hz'])] at h2
  have h3 := Go.Lib.ownsRow_grow h2 0 os
  refine ⟨d'.toList.map (encU us n), by simp, ?_, fun i hi => ?_⟩
  · rw [show (d'.toList.map (encU us n)).length = n by simp [hz']]
    exact h3
  · have hi' : i < d'.toList.length := by simpa using hi
    have e1 : (d'.toList.map (encU us n)).getD i undef = encU us n d'.toList[i] := by rw [List.getD_eq_getElem?_getD, List.getElem?_map, List.getElem?_eq_getElem hi']; rfl
    have e2 : (d'.toList.map (keyL L n)).getD i [] = keyL L n d'.toList[i] := by rw [List.getD_eq_getElem?_getD, List.getElem?_map, List.getElem?_eq_getElem hi']; rfl
    rw [e1, e2]
    have hk := hR.key d'.toList[i]
    refine ⟨(hR.rd _ (Nat.mod_lt _ hR.n1)).1, reads_sort hk.1 hk.2.1, fun k hk2 => ?_⟩
    have : g = k := Option.some.inj hk2
    subst this; exact hk.2.1
theorem sortF_any (w : World) (B g n cap : Nat) (L : List (List Int)) (h : OwnL w B (.slice (some ⟨g, 0, none⟩) n cap) L) (hn : L.length = n) (h1 : 1 ≤ n) (hn1 : n ≤ 1000) (hs : ∀ l, l ∈ L → l.length ≤ 1000) :
    Calls Tryz.prog 116 #[.slice (some ⟨g, 0, none⟩) n cap, .func (.func 117) #[] #[]] w fun e w' =>
      e = .returned (.tuple #[]) ∧ ∃ M, M.Perm L ∧ M.Pairwise (fun x y => lessL y x = false) ∧ OwnL w' B (.slice (some ⟨g, 0, none⟩) n cap) M ∧ Below B w w' := by
  obtain ⟨us, hR⟩ := RowU.of h hn h1 hs
  obtain ⟨hh, hg, hB⟩ := hR.holds
  have hc := Any.slices_SortFunc Tryz.sortF (encU us n) hR.one (fun x y => cmpL (keyL L n x) (keyL L n y)) (swo_key L n) 117 #[] g 0 cap (List.range n).toArray w
    (enters_of Tryz.func117 (by kernel_rfl) rfl) (by rw [show (List.range n).toArray.size = n by simp]; exact hR.cmp) hh hg (by simp; omega)
  rw [show (List.range n).toArray.size = n by simp] at hc
  refine Calls.mono hc ?_
  rintro e w' ⟨rfl, d', m, os, ⟨hz, -, hp⟩, hso, rfl⟩
  have hz' : d'.size = n := by rw [hz]; simp
  have hp' : d'.toList.Perm (List.range n) := by
    have e1 : (d'.extract 0 n).toList = d'.toList := by simp; rw [List.take_of_length_le (by simp [hz'])]
    have e2 : ((List.range n).toArray.extract 0 n).toList = List.range n := by simp
    rw [e1, e2] at hp; exact hp
  refine ⟨rfl, d'.toList.map (keyL L n), ?_, ?_, ?_, below_sort hB hg⟩
  · have := hp'.map (keyL L n)
    rw [keyL_map hn] at this; exact this
  · rw [List.pairwise_map, List.pairwise_iff_getElem]
    intro i j hi hj hij
    have hi' : i < d'.size := by simpa using hi
    have hj' : j < d'.size := by simpa using hj
    have := hso i j (Nat.zero_le _) hij (by omega)
    rw [lt_key, getElem!_pos d' i hi', getElem!_pos d' j hj'] at this
    simpa using this
  · exact hR.put m d' os hz'

/-- how many come before -/
theorem count_num {M : List (List Int)} (hM : M.Nodup) (d : List Int) : M.countP (fun x => lessL x d) = num M d := by
  unfold num
  rw [List.countP_eq_length_filter]
  refine len_eq_of_same (hM.sublist List.filter_sublist) (seen_nodup _ _) fun x => ?_
  rw [List.mem_filter, mem_seen]

theorem search_any (w : World) (B g n cap : Nat) (M : List (List Int)) (v : Value) (d : List Int) (h : OwnL w B (.slice (some ⟨g, 0, none⟩) n cap) M) (hn : M.length = n) (h1 : 1 ≤ n) (hn1 : n ≤ 1000) (hs : ∀ l, l ∈ M → l.length ≤ 1000)
    (hM : M.Pairwise fun a b => lessL a b = true) (hv : Reads w v d) (hvg : v.ownBlock ≠ some g) (hd : d.length ≤ 1000) :
    Calls Tryz.prog 119 #[.slice (some ⟨g, 0, none⟩) n cap, v, .func (.func 117) #[] #[]] w fun e w' =>
      ∃ b, e = .returned (.tuple #[.int .i64 (num M d : Nat), .bool b]) ∧ Below w.heap.size w w' := by
  obtain ⟨us, hR⟩ := RowU.of h hn h1 hs
  obtain ⟨hh, hg, hB⟩ := hR.holds
  have hmap : (List.range n).map (keyL M n) = M := keyL_map hn
  have hcmp : CmpLaysT Tryz.prog 117 #[] (encU us n) v (fun x => cmpL (keyL M n x) d) g 0 n w := by
    intro m os dk hs x
    have hx := hR.key x
    refine (compareS_any (encU us n x) v (keyL M n x) d _ (reads_sort hx.1 hx.2.1) (reads_sort hv hvg) (by omega) (by omega)).mono ?_
    rintro e w' ⟨rfl, q, rfl⟩
    exact ⟨rfl, q, #[], by rw [grow_empty]⟩
  have hlt : ∀ i j, i < j → j < n → lessL (keyL M n i) (keyL M n j) = true := fun i j hij hj => by
    have := List.pairwise_iff_getElem.1 hM i j (by omega) (by omega) hij
    unfold keyL
    rw [Nat.mod_eq_of_lt hj, Nat.mod_eq_of_lt (by omega), List.getD_eq_getElem?_getD, List.getD_eq_getElem?_getD, List.getElem?_eq_getElem (by omega), List.getElem?_eq_getElem (by omega)]
    exact this
  have hc := Any.slices_BinarySearchFunc Tryz.searchF (encU us n) hR.one v (fun x => cmpL (keyL M n x) d) 117 #[] g 0 cap (List.range n).toArray w
    (enters_of Tryz.func117 (by kernel_rfl) rfl) (by rw [show (List.range n).toArray.size = n by simp]; exact hcmp) hh hg (by simp; omega) (fun a b hab hb hc => by
      have hb' : b < n := by simpa using hb
      have e : ∀ i, i < n → (List.range n).toArray[i]! = i := fun i hi => by rw [getElem!_pos _ i (by simpa using hi)]; simp
      rw [e b hb'] at hc
      rw [e a (by omega)]
      have h2 : lessL (keyL M n b) d = true := by rw [← cmpL_lt]; exact decide_eq_true hc
      have h3 : lessL (keyL M n a) d = true := by
        by_cases hab' : a = b
        · subst hab'; exact h2
        · exact less_trans (hlt a b (by omega) hb') h2
      rw [← cmpL_lt] at h3
      exact of_decide_eq_true h3)
  rw [show (List.range n).toArray.size = n by simp] at hc
  have hcnt : (List.range n).toArray.toList.countP (fun x => decide (cmpL (keyL M n x) d < 0)) = num M d := by
    rw [← count_num (hM.imp fun {a b} hab e => by subst e; rw [less_irr] at hab; cases hab) d]
    conv => rhs; rw [← hmap]
    rw [List.countP_map]
    refine List.countP_congr fun x _ => ?_
    rw [cmpL_lt]; rfl
  rw [hcnt] at hc
  refine Calls.mono hc ?_
  rintro e w' ⟨rfl, m, os, rfl⟩
  refine ⟨_, rfl, ?_⟩
  unfold sortWorld
  rw [putRow_self _ _ _ _ _ (holds_ahead _ _ _ _ _ _ hh)]
  exact Go.Lib.below_grow _ _ (Nat.le_refl _) m os
end Go.Proofs.YtpcnoiigbmiejaaGreatDoor.cmp

/- slices.Sort and slices.Max at a list of numbers of the call's own. -/
namespace Go.Proofs.YtpcnoiigbmiejaaGreatDoor.cmp
set_option linter.unusedVariables false
set_option linter.unusedSimpArgs false
open Go.ChangeShapes Go.WideShapes Go.ChangeAt Go.RowKit Go.Sort
open Go.Proofs.YtpcnoiigbmiejaaGreatDoor.lib Go.Proofs.YtpcnoiigbmiejaaGreatDoor.sll Go.Proofs.YtpcnoiigbmiejaaGreatDoor.colp Go.Proofs.YtpcnoiigbmiejaaGreatDoor.col

theorem grown_sortI {w : World} {g m : Nat} {d : Array Int} {os : Array Obj} : w.grownBy (grow (putRow (Value.int .i64) (Sort.ahead w m) g 0 d) os) (some g) := by
  refine ⟨rfl, rfl, rfl, ?_, fun k hk hne => ?_⟩
  · rw [size_grow, size_putRow]; exact Nat.le_add_right _ _
  · have hne' : g ≠ k := fun e => hne (by rw [e])
    rw [heap_grow_old _ _ (by rw [size_putRow]; exact hk)]
    show ((Sort.ahead w m).heap.modify g _)[k]? = _
    rw [Array.getElem?_modify, if_neg hne']
    rfl
theorem sortI_any (v : Value) (l : List Int) (w : World) (B : Nat) (h : OwnI 3 w B v l) (hl : l.length ≤ 100000) :
    Calls Tryz.prog 65 #[v] w fun e w' => e = .returned (.tuple #[]) ∧ OwnI 3 w' B v (sortI l) ∧ w.grownBy w' v.ownBlock := by
  rcases h.shape with ⟨rfl, rfl⟩ | ⟨g, cap, rfl⟩
  · refine (Any.slices_Sort_int_none Tryz.lays189 none 0 w).mono ?_
    rintro e w' ⟨rfl, rfl⟩
    exact ⟨rfl, by rw [sortI, List.mergeSort_nil]; exact OwnI.nil _ _ _, World.grownBy.refl _ _⟩
  · have ho : w.ownsRow B 3 1 (.slice (some ⟨g, 0, none⟩) l.length cap) l.length (l.map (Value.int .i64)) := h
    obtain ⟨g', cap', hv, hb, hlt, -, -, -, hh⟩ := Go.Lib.holds_of_ownsRow (zs := l) ho (by simp)
    simp only [Value.slice.injEq, Option.some.injEq, Addr.mk.injEq] at hv
    obtain ⟨⟨rfl, -⟩, -⟩ := hv
    refine (Any.slices_Sort_int Tryz.lays189 g 0 cap l w hh hlt (by omega)).mono ?_
    rintro e w' ⟨rfl, m, os, rfl⟩
    refine ⟨rfl, ?_, grown_sortI⟩
    have h2 := Go.Lib.ownsRow_putRow (q := m) (ys := l.mergeSort fun x y => decide (x ≤ y)) ho (by rw [List.length_mergeSort]) (Nat.le_refl _)
    rw [List.take_of_length_le (by rw [List.length_mergeSort]; exact Nat.le_refl _)] at h2
    have h3 := Go.Lib.ownsRow_grow h2 0 os
    unfold OwnI
    rw [sortI_len]
    exact h3
end Go.Proofs.YtpcnoiigbmiejaaGreatDoor.cmp

/- describeColour of the program: an element's description by the colours of all. -/
namespace Go.Proofs.YtpcnoiigbmiejaaGreatDoor.desci
set_option linter.unusedVariables false
set_option linter.unusedSimpArgs false
open Go.ChangeShapes Go.WideShapes Go.ChangeAt Go.RowKit
open Go.Proofs.YtpcnoiigbmiejaaGreatDoor.lib Go.Proofs.YtpcnoiigbmiejaaGreatDoor.st Go.Proofs.YtpcnoiigbmiejaaGreatDoor.base Go.Proofs.YtpcnoiigbmiejaaGreatDoor.col Go.Proofs.YtpcnoiigbmiejaaGreatDoor.sll Go.Proofs.YtpcnoiigbmiejaaGreatDoor.descr Go.Proofs.YtpcnoiigbmiejaaGreatDoor.ways Go.Proofs.YtpcnoiigbmiejaaGreatDoor.cmp Go.Proofs.YtpcnoiigbmiejaaGreatDoor.flow Go.Proofs.YtpcnoiigbmiejaaGreatDoor.chain

theorem ways_no {w : World} {HW HB : Nat} {V : Nat → Value} {a : St} {c : List Int} {x y : Nat} (h : Ways w HW HB V (fun k => way a c x k y)) (hy : y = x) : Ways w HW HB V (fun k => way a c x k (y + 1)) :=
  h.congr fun k _ => (way_no (.inl hy)).symm
theorem ways_yes {w w9 : World} {HW HB K : Nat} {V : Nat → Value} {a : St} {c : List Int} {x y : Nat} {u : Value} (h : Ways w HW HB V (fun k => way a c x k y)) (hK : K < 4) (hB : HB ≤ w.heap.size) (hg : Grew w w9 (V K) u) (hu : OwnI 3 w9 HB u (way a c x K y ++ [c.getD y 0])) (hy : y ≠ x) (hk : kindOf a x y = K) :
    ∃ V2, Ways (w9.setCell ⟨HW, K, none⟩ u) HW HB V2 (fun k => way a c x k (y + 1)) :=
  ⟨_, (h.put hK hB hg hu (by simp)).congr fun k _ => by
    by_cases e : k = K
    · subst e; rw [if_pos rfl, way_yes hy hk]
    · rw [if_neg e, way_no (.inr fun e2 => e (by rw [← e2, hk]))]⟩

set_option maxHeartbeats 6400000 in
set_option maxRecDepth 100000 in
theorem describe_any (N : Nat) (s r : ByteArray) (c : List Int) (v : Value) (x : Nat) (w : World) (hx : x < N) (hn : N ≤ 8) (hr : r.size = N * N) (hv : Reads w v c) (hc : c.length = N) :
    Calls Tryz.prog 92 #[.agg #[.int .i64 N, .string s, .string r], .int .i64 x, v] w fun e w' => ∃ v0, e = .returned v0 ∧ OwnI 3 w' w.heap.size v0 (desc ⟨N, s, r⟩ c x) ∧ Below w.heap.size w w' := by
  obtain ⟨ao, cap, rfl⟩ := hv.len
  rw [hc] at hv ⊢
  obtain ⟨b, off, rfl, hbw, hcell⟩ := int_spot hv hc.symm (by omega)
  obtain ⟨W1, hW1⟩ : ∃ W1, W1 = w.alloc (.cells #[.int .i64 N, .string s, .string r] 24) := ⟨_, rfl⟩
  obtain ⟨W2, hW2⟩ : ∃ W2, W2 = W1.alloc (.cells #[.slice none 0 0, .slice none 0 0, .slice none 0 0, .slice none 0 0] 127) := ⟨_, rfl⟩
  have Z1 : W1.heap.size = w.heap.size + 1 := by rw [hW1]; simp
  have A2 : Below W1.heap.size W1 W2 := by rw [hW2]; exact (Below.refl _ _).alloc (Nat.le_refl _) _
  obtain ⟨HW, hHW⟩ : ∃ HW, HW = w.heap.size + 1 := ⟨_, rfl⟩
  obtain ⟨HB, hHB⟩ : ∃ HB, HB = w.heap.size + 2 := ⟨_, rfl⟩
  have START : Hid (Ways W2 HW HB (fun _ => .slice none 0 0) (fun k => way ⟨N, s, r⟩ c x k 0) ∧ Box 24 W2 w.heap.size N s r ∧ Below w.heap.size w W2 ∧ HB ≤ W2.heap.size) := by
    refine ⟨?_, ?_, ?_, ?_⟩
    · rw [hW2]; exact Ways.start W1 HW HB _ (by omega) (by omega)
    · have hb : Box 24 W1 w.heap.size N s r := by rw [hW1]; exact Box.new _ w _ rfl _ _ _
      exact hb.below A2 (by omega)
    · have h1 : Below w.heap.size w W1 := by rw [hW1]; exact (Below.refl _ _).alloc (Nat.le_refl _) _
      exact h1.trans (A2.mono (by omega))
    · rw [hW2, hHB]; simp; omega
  have HH := Lib.hid (show _ ∧ _ from ⟨hHW, hHB⟩)
  have HC := Lib.hid hcell
  have HR := Lib.hid (show _ ∧ _ from ⟨hr, hc⟩)
  have H1 := Lib.hid hW1
  have H2 := Lib.hid hW2
  have hHWB : w.heap.size < HW ∧ HW < HB := by omega
  clear hv hc hr hcell hW1 hW2 Z1 A2
  go_enter Tryz.func92, Tryz.ntmps92
  go_wp2_with fail
  try rw [← H1.out]
  try rw [← H2.out]
  try rw [← hHW]
  clear hHW hHB
  go_loopw [16] (fun i wr => ∃ (y : Nat) (V : Nat → Value), y ≤ N ∧ i = .int .i64 y ∧ Ways wr HW HB V (fun k => way ⟨N, s, r⟩ c x k y) ∧ Box 24 wr w.heap.size N s r ∧ Below w.heap.size w wr ∧ HB ≤ wr.heap.size) (fun i _ => N - (intOf i).toNat)
  case atStart => exact ⟨0, _, Nat.zero_le _, rfl, START.out⟩
  case round =>
    clear START
    obtain ⟨y, V, hy, rfl, q1, q2, q3, q4⟩ := hrel
    have HQ := Lib.hid (show _ ∧ _ ∧ _ ∧ _ from ⟨q1, q2, q3, q4⟩)
    clear q1 q2 q3 q4
    by_cases hyN : y < N
    · obtain ⟨a0, a1, a2⟩ := HQ.out.2.1.c
      by_cases hyx : y = x
      · have R : Hid (Ways wr HW HB V (fun k => way ⟨N, s, r⟩ c x k (y + 1))) := ways_no HQ.out.1 hyx
        have t1 : ((y : Int) == (x : Int)) = true := by simp; omega
        clear hyx
        go_wp2
        go_roundw
        case rel => exact ⟨y + 1, V, by omega, by go_num, R.out, HQ.out.2⟩
        case measure => simp [intOf]; omega
      · have t1 : ((y : Int) == (x : Int)) = false := by simp; omega
        cases e1 : bitAt r (y * N + x) with
        | false =>
          cases e2 : bitAt r (x * N + y) with
          | false =>
            have hk : kindOf ⟨N, s, r⟩ x y = 0 := by
              unfold kindOf n01
              simp only [e1, e2]; rfl
            have HK := Lib.hid (show _ ∧ _ ∧ _ from ⟨hk, hyx, (show _ ∧ _ from ⟨e1, e2⟩)⟩)
            clear hk hyx e1 e2
            go_wp2_with fail
            refine (inRel_any N s r y x _ hyN hx hn HR.out.1).mono ?_
            rintro e w1 ⟨rfl, hb⟩
            rw [HK.out.2.2.1]
            have HQ1 := Lib.hid (show _ ∧ _ ∧ _ ∧ _ from ⟨HQ.out.1.down hb, HQ.out.2.1.below hb HQ.out.2.1.lt, HQ.out.2.2.1.trans (hb.mono HQ.out.2.2.1.size), Nat.le_trans HQ.out.2.2.2 hb.size⟩)
            clear hb a0 a1 a2 HQ
            obtain ⟨a0, a1, a2⟩ := HQ1.out.2.1.c
            go_wp2_with fail
            refine (inRel_any N s r x y _ hx hyN hn HR.out.1).mono ?_
            rintro e w2 ⟨rfl, hb⟩
            rw [HK.out.2.2.2]
            have HQ2 := Lib.hid (show _ ∧ _ ∧ _ ∧ _ from ⟨HQ1.out.1.down hb, HQ1.out.2.1.below hb HQ1.out.2.1.lt, HQ1.out.2.2.1.trans (hb.mono HQ1.out.2.2.1.size), Nat.le_trans HQ1.out.2.2.2 hb.size⟩)
            clear hb a0 a1 a2 HQ1
            obtain ⟨cy, hcy⟩ : ∃ cy, cy = c.getD y 0 := ⟨_, rfl⟩
            have k1 : w2.cell? ⟨b, off + y, none⟩ = some (.int .i64 cy) := by rw [HQ2.out.2.2.1.cell (p := ⟨b, off + y, none⟩) hbw, hcy]; exact HC.out y hyN
            have k0 := HQ2.out.1.cell 0 (by omega)
            have f0 := HQ2.out.1.free 0
            have OWN : Hid (OwnI 3 w2.drew HB (V 0) (way ⟨N, s, r⟩ c x 0 y)) := (HQ2.out.1.own 0 (by omega)).below ((Below.refl _ _).drew) (Nat.le_refl _)
            have NB : Hid (some HW ≠ (V 0).ownBlock) := fun e => by have := (OWN.out.lt HW e.symm).1; omega
            have hGR : Hid (∀ w9 u, Grew w2.drew w9 (V 0) u → OwnI 3 w9 HB u (way ⟨N, s, r⟩ c x 0 y ++ [cy]) → (∃ V2, Ways (w9.setCell ⟨HW, 0, none⟩ u) HW HB V2 (fun k => way ⟨N, s, r⟩ c x k (y + 1))) ∧ Box 24 (w9.setCell ⟨HW, 0, none⟩ u) w.heap.size N s r ∧ Below w.heap.size w (w9.setCell ⟨HW, 0, none⟩ u) ∧ HB ≤ (w9.setCell ⟨HW, 0, none⟩ u).heap.size) := fun w9 u hg hu => by
              have hd : Below w2.heap.size w2 w2.drew := (Below.refl _ _).drew
              have hb9 : Below HB w2 w9 := (hd.mono HQ2.out.2.2.2).trans (hg.below OWN.out HQ2.out.2.2.2)
              have hb7 : Below HW w2 w9 := hb9.mono (by omega)
              have hb8 : Below HW w2 (w9.setCell ⟨HW, 0, none⟩ u) := hb7.setCell (p := ⟨HW, 0, none⟩) (Nat.le_refl _) _
              refine ⟨?_, HQ2.out.2.1.below hb8 (by omega), HQ2.out.2.2.1.trans (hb8.mono (by omega)), Nat.le_trans HQ2.out.2.2.2 hb8.size⟩
              rw [hcy] at hu
              exact ways_yes (HQ2.out.1.down hd) (by omega) HQ2.out.2.2.2 hg hu HK.out.2.1 HK.out.1
            have HLN : Hid ((way ⟨N, s, r⟩ c x 0 y).length ≤ 8) := by have := way_len ⟨N, s, r⟩ c x 0 y; unfold Hid; omega
            have hsz : HB ≤ w2.heap.size := HQ2.out.2.2.2
            have AL : Hid (Below w2.heap.size w2 (w2.alloc (.cells #[.int .i64 cy] 3)).drew) := ((Below.refl _ _).alloc (Nat.le_refl _) _).drew
            have AL2 : Hid (∀ w9 u, Grew w2.drew w9 (V 0) u → w9.cell? ⟨HW, 0, none⟩ = some (V 0) ∧ w9.cell? ⟨b, off + y, none⟩ = some (.int .i64 cy) ∧ w9.frozen? ⟨HW, 0, none⟩ = false) := fun w9 u hg => by
              have hd : Below w2.heap.size w2 w2.drew := (Below.refl _ _).drew
              have hb9 : Below HB w2 w9 := (hd.mono HQ2.out.2.2.2).trans (hg.below OWN.out HQ2.out.2.2.2)
              have hbs : b < HB := by omega
              exact ⟨by rw [hb9.cell (p := ⟨HW, 0, none⟩) hHWB.2]; exact k0, by rw [hb9.cell (p := ⟨b, off + y, none⟩) hbs]; exact k1, by rw [World.frozen?_of_block (w := w2) (hb9.block HW hHWB.2)]; exact f0⟩
            have CF : Hid (w2.cell? ⟨HW, 0, none⟩ = some (V 0) ∧ w2.cell? ⟨b, off + y, none⟩ = some (.int .i64 cy)) := ⟨k0, k1⟩
            have HWL : HW < w2.heap.size := HQ2.out.1.lt
            have BL : b < w2.heap.size := by have := HQ2.out.2.2.1.size; omega
            obtain ⟨vk, hvk⟩ : ∃ vk, vk = V 0 := ⟨_, rfl⟩
            rw [← hvk] at OWN NB hGR AL2 CF
            obtain ⟨ln, hln⟩ : ∃ ln, ln = (way ⟨N, s, r⟩ c x 0 y).length := ⟨_, rfl⟩
            have q0 : ∀ QQ : Wd (fun Q => Q.cell? ⟨HW, 0, none⟩ = some vk ∧ Q.cell? ⟨b, off + y, none⟩ = some (.int .i64 cy)), QQ.w.cell? ⟨HW, 0, none⟩ = some vk := fun QQ => QQ.ok.1
            have q1 : ∀ QQ : Wd (fun Q => Q.cell? ⟨HW, 0, none⟩ = some vk ∧ Q.cell? ⟨b, off + y, none⟩ = some (.int .i64 cy)), QQ.w.cell? ⟨b, off + y, none⟩ = some (.int .i64 cy) := fun QQ => QQ.ok.2
            have hne : Nonempty (Wd (fun Q => Q.cell? ⟨HW, 0, none⟩ = some vk ∧ Q.cell? ⟨b, off + y, none⟩ = some (.int .i64 cy))) := ⟨⟨w2, CF.out⟩⟩
            clear k0 k1 f0 hvk hcy hln
            go_wp2_with fail
            refine chain_last (S := (fun Q => Q.cell? ⟨HW, 0, none⟩ = some vk ∧ Q.cell? ⟨b, off + y, none⟩ = some (.int .i64 cy))) [([true, true, true, true, true, true, true, true], 8), ([], 9)] [false, false, false, false, false, false, false, false, false, false, true] (by kernel_rfl) (by kernel_rfl) (by kernel_rfl) (by kernel_rfl) (by kernel_rfl) (by kernel_rfl) CF.out ?_
            simp only [wpSegs, pickB, List.dropLast_cons_cons, List.dropLast_singleton, List.getLast?_cons_cons, List.getLast?_singleton, List.toList_toArray, List.getElem?_toArray, List.getElem?_cons_succ, List.getElem?_cons_zero, Option.toList_some]
            repeat (go_big_quiet_step (fail))
            refine wpQuiet_nil ?_
            intro K hK
            go_wp2_with fail
            refine hK _ _ ⟨by rw [AL.out.cell (p := ⟨HW, 0, none⟩) HWL]; exact CF.out.1, by rw [AL.out.cell (p := ⟨b, off + y, none⟩) BL]; exact CF.out.2⟩ ?_
            clear hK K
            repeat (go_big_quiet_step (fail))
            refine wpQuiet_nil ?_
            intro K hK
            go_wp2_with (at_builtin; refine wpList_app1 w2.drew rfl (.tmp 37) (.tmp 42) 29 rfl HB 3 (.int .i64 0) 8 Tryz.underlying29 sll.infoInt rfl (by decide) _ _ _ (.int .i64 cy) rfl OWN.out w2.heap.size rfl rfl rfl (by have := HLN.out; omega) hsz ?_)
            intro g1 cap1 w9 hown9 hgr
            have KF := Lib.hid (AL2.out w9 _ hgr)
            have RF := Lib.hid (hGR.out w9 _ hgr (by unfold OwnI; rw [List.length_append, ivs_append]; exact hown9))
            clear hown9 hgr
            go_wp2_with fail
            refine hK _ _ ⟨KF.out.1, KF.out.2.1⟩ ?_
            clear hK K
            repeat (go_big_quiet_step (fail))
            refine wpQuiet_nil ?_
            show wpList _ _ _ _ _ _
            obtain ⟨k0, -, f0⟩ := KF.out
            obtain ⟨⟨V2, r1⟩, r2⟩ := RF.out
            have R := Lib.hid (show _ ∧ _ from ⟨r1, r2⟩)
            clear r1 r2 q0 q1 hne RF
            go_wp2
            go_roundw
            case rel => exact ⟨y + 1, V2, by omega, by go_num, R.out⟩
            case measure => simp [intOf]; omega
          | true =>
            have hk : kindOf ⟨N, s, r⟩ x y = 2 := by
              unfold kindOf n01
              simp only [e1, e2]; rfl
            have HK := Lib.hid (show _ ∧ _ ∧ _ from ⟨hk, hyx, (show _ ∧ _ from ⟨e1, e2⟩)⟩)
            clear hk hyx e1 e2
            go_wp2_with fail
            refine (inRel_any N s r y x _ hyN hx hn HR.out.1).mono ?_
            rintro e w1 ⟨rfl, hb⟩
            rw [HK.out.2.2.1]
            have HQ1 := Lib.hid (show _ ∧ _ ∧ _ ∧ _ from ⟨HQ.out.1.down hb, HQ.out.2.1.below hb HQ.out.2.1.lt, HQ.out.2.2.1.trans (hb.mono HQ.out.2.2.1.size), Nat.le_trans HQ.out.2.2.2 hb.size⟩)
            clear hb a0 a1 a2 HQ
            obtain ⟨a0, a1, a2⟩ := HQ1.out.2.1.c
            go_wp2_with fail
            refine (inRel_any N s r x y _ hx hyN hn HR.out.1).mono ?_
            rintro e w2 ⟨rfl, hb⟩
            rw [HK.out.2.2.2]
            have HQ2 := Lib.hid (show _ ∧ _ ∧ _ ∧ _ from ⟨HQ1.out.1.down hb, HQ1.out.2.1.below hb HQ1.out.2.1.lt, HQ1.out.2.2.1.trans (hb.mono HQ1.out.2.2.1.size), Nat.le_trans HQ1.out.2.2.2 hb.size⟩)
            clear hb a0 a1 a2 HQ1
            obtain ⟨cy, hcy⟩ : ∃ cy, cy = c.getD y 0 := ⟨_, rfl⟩
            have k1 : w2.cell? ⟨b, off + y, none⟩ = some (.int .i64 cy) := by rw [HQ2.out.2.2.1.cell (p := ⟨b, off + y, none⟩) hbw, hcy]; exact HC.out y hyN
            have k0 := HQ2.out.1.cell 2 (by omega)
            have f0 := HQ2.out.1.free 2
            have OWN : Hid (OwnI 3 w2.drew HB (V 2) (way ⟨N, s, r⟩ c x 2 y)) := (HQ2.out.1.own 2 (by omega)).below ((Below.refl _ _).drew) (Nat.le_refl _)
            have NB : Hid (some HW ≠ (V 2).ownBlock) := fun e => by have := (OWN.out.lt HW e.symm).1; omega
            have hGR : Hid (∀ w9 u, Grew w2.drew w9 (V 2) u → OwnI 3 w9 HB u (way ⟨N, s, r⟩ c x 2 y ++ [cy]) → (∃ V2, Ways (w9.setCell ⟨HW, 2, none⟩ u) HW HB V2 (fun k => way ⟨N, s, r⟩ c x k (y + 1))) ∧ Box 24 (w9.setCell ⟨HW, 2, none⟩ u) w.heap.size N s r ∧ Below w.heap.size w (w9.setCell ⟨HW, 2, none⟩ u) ∧ HB ≤ (w9.setCell ⟨HW, 2, none⟩ u).heap.size) := fun w9 u hg hu => by
              have hd : Below w2.heap.size w2 w2.drew := (Below.refl _ _).drew
              have hb9 : Below HB w2 w9 := (hd.mono HQ2.out.2.2.2).trans (hg.below OWN.out HQ2.out.2.2.2)
              have hb7 : Below HW w2 w9 := hb9.mono (by omega)
              have hb8 : Below HW w2 (w9.setCell ⟨HW, 2, none⟩ u) := hb7.setCell (p := ⟨HW, 2, none⟩) (Nat.le_refl _) _
              refine ⟨?_, HQ2.out.2.1.below hb8 (by omega), HQ2.out.2.2.1.trans (hb8.mono (by omega)), Nat.le_trans HQ2.out.2.2.2 hb8.size⟩
              rw [hcy] at hu
              exact ways_yes (HQ2.out.1.down hd) (by omega) HQ2.out.2.2.2 hg hu HK.out.2.1 HK.out.1
            have HLN : Hid ((way ⟨N, s, r⟩ c x 2 y).length ≤ 8) := by have := way_len ⟨N, s, r⟩ c x 2 y; unfold Hid; omega
            have hsz : HB ≤ w2.heap.size := HQ2.out.2.2.2
            have AL : Hid (Below w2.heap.size w2 (w2.alloc (.cells #[.int .i64 cy] 3)).drew) := ((Below.refl _ _).alloc (Nat.le_refl _) _).drew
            have AL2 : Hid (∀ w9 u, Grew w2.drew w9 (V 2) u → w9.cell? ⟨HW, 2, none⟩ = some (V 2) ∧ w9.cell? ⟨b, off + y, none⟩ = some (.int .i64 cy) ∧ w9.frozen? ⟨HW, 2, none⟩ = false) := fun w9 u hg => by
              have hd : Below w2.heap.size w2 w2.drew := (Below.refl _ _).drew
              have hb9 : Below HB w2 w9 := (hd.mono HQ2.out.2.2.2).trans (hg.below OWN.out HQ2.out.2.2.2)
              have hbs : b < HB := by omega
              exact ⟨by rw [hb9.cell (p := ⟨HW, 2, none⟩) hHWB.2]; exact k0, by rw [hb9.cell (p := ⟨b, off + y, none⟩) hbs]; exact k1, by rw [World.frozen?_of_block (w := w2) (hb9.block HW hHWB.2)]; exact f0⟩
            have CF : Hid (w2.cell? ⟨HW, 2, none⟩ = some (V 2) ∧ w2.cell? ⟨b, off + y, none⟩ = some (.int .i64 cy)) := ⟨k0, k1⟩
            have HWL : HW < w2.heap.size := HQ2.out.1.lt
            have BL : b < w2.heap.size := by have := HQ2.out.2.2.1.size; omega
            obtain ⟨vk, hvk⟩ : ∃ vk, vk = V 2 := ⟨_, rfl⟩
            rw [← hvk] at OWN NB hGR AL2 CF
            obtain ⟨ln, hln⟩ : ∃ ln, ln = (way ⟨N, s, r⟩ c x 2 y).length := ⟨_, rfl⟩
            have q0 : ∀ QQ : Wd (fun Q => Q.cell? ⟨HW, 2, none⟩ = some vk ∧ Q.cell? ⟨b, off + y, none⟩ = some (.int .i64 cy)), QQ.w.cell? ⟨HW, 2, none⟩ = some vk := fun QQ => QQ.ok.1
            have q1 : ∀ QQ : Wd (fun Q => Q.cell? ⟨HW, 2, none⟩ = some vk ∧ Q.cell? ⟨b, off + y, none⟩ = some (.int .i64 cy)), QQ.w.cell? ⟨b, off + y, none⟩ = some (.int .i64 cy) := fun QQ => QQ.ok.2
            have hne : Nonempty (Wd (fun Q => Q.cell? ⟨HW, 2, none⟩ = some vk ∧ Q.cell? ⟨b, off + y, none⟩ = some (.int .i64 cy))) := ⟨⟨w2, CF.out⟩⟩
            clear k0 k1 f0 hvk hcy hln
            go_wp2_with fail
            refine chain_last (S := (fun Q => Q.cell? ⟨HW, 2, none⟩ = some vk ∧ Q.cell? ⟨b, off + y, none⟩ = some (.int .i64 cy))) [([true, true, true, true, true, true, true, true], 8), ([], 9)] [false, false, false, false, false, false, false, false, false, false, true] (by kernel_rfl) (by kernel_rfl) (by kernel_rfl) (by kernel_rfl) (by kernel_rfl) (by kernel_rfl) CF.out ?_
            simp only [wpSegs, pickB, List.dropLast_cons_cons, List.dropLast_singleton, List.getLast?_cons_cons, List.getLast?_singleton, List.toList_toArray, List.getElem?_toArray, List.getElem?_cons_succ, List.getElem?_cons_zero, Option.toList_some]
            repeat (go_big_quiet_step (fail))
            refine wpQuiet_nil ?_
            intro K hK
            go_wp2_with fail
            refine hK _ _ ⟨by rw [AL.out.cell (p := ⟨HW, 2, none⟩) HWL]; exact CF.out.1, by rw [AL.out.cell (p := ⟨b, off + y, none⟩) BL]; exact CF.out.2⟩ ?_
            clear hK K
            repeat (go_big_quiet_step (fail))
            refine wpQuiet_nil ?_
            intro K hK
            go_wp2_with (at_builtin; refine wpList_app1 w2.drew rfl (.tmp 37) (.tmp 42) 29 rfl HB 3 (.int .i64 0) 8 Tryz.underlying29 sll.infoInt rfl (by decide) _ _ _ (.int .i64 cy) rfl OWN.out w2.heap.size rfl rfl rfl (by have := HLN.out; omega) hsz ?_)
            intro g1 cap1 w9 hown9 hgr
            have KF := Lib.hid (AL2.out w9 _ hgr)
            have RF := Lib.hid (hGR.out w9 _ hgr (by unfold OwnI; rw [List.length_append, ivs_append]; exact hown9))
            clear hown9 hgr
            go_wp2_with fail
            refine hK _ _ ⟨KF.out.1, KF.out.2.1⟩ ?_
            clear hK K
            repeat (go_big_quiet_step (fail))
            refine wpQuiet_nil ?_
            show wpList _ _ _ _ _ _
            obtain ⟨k0, -, f0⟩ := KF.out
            obtain ⟨⟨V2, r1⟩, r2⟩ := RF.out
            have R := Lib.hid (show _ ∧ _ from ⟨r1, r2⟩)
            clear r1 r2 q0 q1 hne RF
            go_wp2
            go_roundw
            case rel => exact ⟨y + 1, V2, by omega, by go_num, R.out⟩
            case measure => simp [intOf]; omega
        | true =>
          cases e2 : bitAt r (x * N + y) with
          | false =>
            have hk : kindOf ⟨N, s, r⟩ x y = 1 := by
              unfold kindOf n01
              simp only [e1, e2]; rfl
            have HK := Lib.hid (show _ ∧ _ ∧ _ from ⟨hk, hyx, (show _ ∧ _ from ⟨e1, e2⟩)⟩)
            clear hk hyx e1 e2
            go_wp2_with fail
            refine (inRel_any N s r y x _ hyN hx hn HR.out.1).mono ?_
            rintro e w1 ⟨rfl, hb⟩
            rw [HK.out.2.2.1]
            have HQ1 := Lib.hid (show _ ∧ _ ∧ _ ∧ _ from ⟨HQ.out.1.down hb, HQ.out.2.1.below hb HQ.out.2.1.lt, HQ.out.2.2.1.trans (hb.mono HQ.out.2.2.1.size), Nat.le_trans HQ.out.2.2.2 hb.size⟩)
            clear hb a0 a1 a2 HQ
            obtain ⟨a0, a1, a2⟩ := HQ1.out.2.1.c
            go_wp2_with fail
            refine (inRel_any N s r x y _ hx hyN hn HR.out.1).mono ?_
            rintro e w2 ⟨rfl, hb⟩
            rw [HK.out.2.2.2]
            have HQ2 := Lib.hid (show _ ∧ _ ∧ _ ∧ _ from ⟨HQ1.out.1.down hb, HQ1.out.2.1.below hb HQ1.out.2.1.lt, HQ1.out.2.2.1.trans (hb.mono HQ1.out.2.2.1.size), Nat.le_trans HQ1.out.2.2.2 hb.size⟩)
            clear hb a0 a1 a2 HQ1
            obtain ⟨cy, hcy⟩ : ∃ cy, cy = c.getD y 0 := ⟨_, rfl⟩
            have k1 : w2.cell? ⟨b, off + y, none⟩ = some (.int .i64 cy) := by rw [HQ2.out.2.2.1.cell (p := ⟨b, off + y, none⟩) hbw, hcy]; exact HC.out y hyN
            have k0 := HQ2.out.1.cell 1 (by omega)
            have f0 := HQ2.out.1.free 1
            have OWN : Hid (OwnI 3 w2.drew HB (V 1) (way ⟨N, s, r⟩ c x 1 y)) := (HQ2.out.1.own 1 (by omega)).below ((Below.refl _ _).drew) (Nat.le_refl _)
            have NB : Hid (some HW ≠ (V 1).ownBlock) := fun e => by have := (OWN.out.lt HW e.symm).1; omega
            have hGR : Hid (∀ w9 u, Grew w2.drew w9 (V 1) u → OwnI 3 w9 HB u (way ⟨N, s, r⟩ c x 1 y ++ [cy]) → (∃ V2, Ways (w9.setCell ⟨HW, 1, none⟩ u) HW HB V2 (fun k => way ⟨N, s, r⟩ c x k (y + 1))) ∧ Box 24 (w9.setCell ⟨HW, 1, none⟩ u) w.heap.size N s r ∧ Below w.heap.size w (w9.setCell ⟨HW, 1, none⟩ u) ∧ HB ≤ (w9.setCell ⟨HW, 1, none⟩ u).heap.size) := fun w9 u hg hu => by
              have hd : Below w2.heap.size w2 w2.drew := (Below.refl _ _).drew
              have hb9 : Below HB w2 w9 := (hd.mono HQ2.out.2.2.2).trans (hg.below OWN.out HQ2.out.2.2.2)
              have hb7 : Below HW w2 w9 := hb9.mono (by omega)
              have hb8 : Below HW w2 (w9.setCell ⟨HW, 1, none⟩ u) := hb7.setCell (p := ⟨HW, 1, none⟩) (Nat.le_refl _) _
              refine ⟨?_, HQ2.out.2.1.below hb8 (by omega), HQ2.out.2.2.1.trans (hb8.mono (by omega)), Nat.le_trans HQ2.out.2.2.2 hb8.size⟩
              rw [hcy] at hu
              exact ways_yes (HQ2.out.1.down hd) (by omega) HQ2.out.2.2.2 hg hu HK.out.2.1 HK.out.1
            have HLN : Hid ((way ⟨N, s, r⟩ c x 1 y).length ≤ 8) := by have := way_len ⟨N, s, r⟩ c x 1 y; unfold Hid; omega
            have hsz : HB ≤ w2.heap.size := HQ2.out.2.2.2
            have AL : Hid (Below w2.heap.size w2 (w2.alloc (.cells #[.int .i64 cy] 3)).drew) := ((Below.refl _ _).alloc (Nat.le_refl _) _).drew
            have AL2 : Hid (∀ w9 u, Grew w2.drew w9 (V 1) u → w9.cell? ⟨HW, 1, none⟩ = some (V 1) ∧ w9.cell? ⟨b, off + y, none⟩ = some (.int .i64 cy) ∧ w9.frozen? ⟨HW, 1, none⟩ = false) := fun w9 u hg => by
              have hd : Below w2.heap.size w2 w2.drew := (Below.refl _ _).drew
              have hb9 : Below HB w2 w9 := (hd.mono HQ2.out.2.2.2).trans (hg.below OWN.out HQ2.out.2.2.2)
              have hbs : b < HB := by omega
              exact ⟨by rw [hb9.cell (p := ⟨HW, 1, none⟩) hHWB.2]; exact k0, by rw [hb9.cell (p := ⟨b, off + y, none⟩) hbs]; exact k1, by rw [World.frozen?_of_block (w := w2) (hb9.block HW hHWB.2)]; exact f0⟩
            have CF : Hid (w2.cell? ⟨HW, 1, none⟩ = some (V 1) ∧ w2.cell? ⟨b, off + y, none⟩ = some (.int .i64 cy)) := ⟨k0, k1⟩
            have HWL : HW < w2.heap.size := HQ2.out.1.lt
            have BL : b < w2.heap.size := by have := HQ2.out.2.2.1.size; omega
            obtain ⟨vk, hvk⟩ : ∃ vk, vk = V 1 := ⟨_, rfl⟩
            rw [← hvk] at OWN NB hGR AL2 CF
            obtain ⟨ln, hln⟩ : ∃ ln, ln = (way ⟨N, s, r⟩ c x 1 y).length := ⟨_, rfl⟩
            have q0 : ∀ QQ : Wd (fun Q => Q.cell? ⟨HW, 1, none⟩ = some vk ∧ Q.cell? ⟨b, off + y, none⟩ = some (.int .i64 cy)), QQ.w.cell? ⟨HW, 1, none⟩ = some vk := fun QQ => QQ.ok.1
            have q1 : ∀ QQ : Wd (fun Q => Q.cell? ⟨HW, 1, none⟩ = some vk ∧ Q.cell? ⟨b, off + y, none⟩ = some (.int .i64 cy)), QQ.w.cell? ⟨b, off + y, none⟩ = some (.int .i64 cy) := fun QQ => QQ.ok.2
            have hne : Nonempty (Wd (fun Q => Q.cell? ⟨HW, 1, none⟩ = some vk ∧ Q.cell? ⟨b, off + y, none⟩ = some (.int .i64 cy))) := ⟨⟨w2, CF.out⟩⟩
            clear k0 k1 f0 hvk hcy hln
            go_wp2_with fail
            refine chain_last (S := (fun Q => Q.cell? ⟨HW, 1, none⟩ = some vk ∧ Q.cell? ⟨b, off + y, none⟩ = some (.int .i64 cy))) [([true, true, true, true, true, true, true, true], 8), ([], 9)] [false, false, false, false, false, false, false, false, false, false, true] (by kernel_rfl) (by kernel_rfl) (by kernel_rfl) (by kernel_rfl) (by kernel_rfl) (by kernel_rfl) CF.out ?_
            simp only [wpSegs, pickB, List.dropLast_cons_cons, List.dropLast_singleton, List.getLast?_cons_cons, List.getLast?_singleton, List.toList_toArray, List.getElem?_toArray, List.getElem?_cons_succ, List.getElem?_cons_zero, Option.toList_some]
            repeat (go_big_quiet_step (fail))
            refine wpQuiet_nil ?_
            intro K hK
            go_wp2_with fail
            refine hK _ _ ⟨by rw [AL.out.cell (p := ⟨HW, 1, none⟩) HWL]; exact CF.out.1, by rw [AL.out.cell (p := ⟨b, off + y, none⟩) BL]; exact CF.out.2⟩ ?_
            clear hK K
            repeat (go_big_quiet_step (fail))
            refine wpQuiet_nil ?_
            intro K hK
            go_wp2_with (at_builtin; refine wpList_app1 w2.drew rfl (.tmp 37) (.tmp 42) 29 rfl HB 3 (.int .i64 0) 8 Tryz.underlying29 sll.infoInt rfl (by decide) _ _ _ (.int .i64 cy) rfl OWN.out w2.heap.size rfl rfl rfl (by have := HLN.out; omega) hsz ?_)
            intro g1 cap1 w9 hown9 hgr
            have KF := Lib.hid (AL2.out w9 _ hgr)
            have RF := Lib.hid (hGR.out w9 _ hgr (by unfold OwnI; rw [List.length_append, ivs_append]; exact hown9))
            clear hown9 hgr
            go_wp2_with fail
            refine hK _ _ ⟨KF.out.1, KF.out.2.1⟩ ?_
            clear hK K
            repeat (go_big_quiet_step (fail))
            refine wpQuiet_nil ?_
            show wpList _ _ _ _ _ _
            obtain ⟨k0, -, f0⟩ := KF.out
            obtain ⟨⟨V2, r1⟩, r2⟩ := RF.out
            have R := Lib.hid (show _ ∧ _ from ⟨r1, r2⟩)
            clear r1 r2 q0 q1 hne RF
            go_wp2
            go_roundw
            case rel => exact ⟨y + 1, V2, by omega, by go_num, R.out⟩
            case measure => simp [intOf]; omega
          | true =>
            have hk : kindOf ⟨N, s, r⟩ x y = 3 := by
              unfold kindOf n01
              simp only [e1, e2]; rfl
            have HK := Lib.hid (show _ ∧ _ ∧ _ from ⟨hk, hyx, (show _ ∧ _ from ⟨e1, e2⟩)⟩)
            clear hk hyx e1 e2
            go_wp2_with fail
            refine (inRel_any N s r y x _ hyN hx hn HR.out.1).mono ?_
            rintro e w1 ⟨rfl, hb⟩
            rw [HK.out.2.2.1]
            have HQ1 := Lib.hid (show _ ∧ _ ∧ _ ∧ _ from ⟨HQ.out.1.down hb, HQ.out.2.1.below hb HQ.out.2.1.lt, HQ.out.2.2.1.trans (hb.mono HQ.out.2.2.1.size), Nat.le_trans HQ.out.2.2.2 hb.size⟩)
            clear hb a0 a1 a2 HQ
            obtain ⟨a0, a1, a2⟩ := HQ1.out.2.1.c
            go_wp2_with fail
            refine (inRel_any N s r x y _ hx hyN hn HR.out.1).mono ?_
            rintro e w2 ⟨rfl, hb⟩
            rw [HK.out.2.2.2]
            have HQ2 := Lib.hid (show _ ∧ _ ∧ _ ∧ _ from ⟨HQ1.out.1.down hb, HQ1.out.2.1.below hb HQ1.out.2.1.lt, HQ1.out.2.2.1.trans (hb.mono HQ1.out.2.2.1.size), Nat.le_trans HQ1.out.2.2.2 hb.size⟩)
            clear hb a0 a1 a2 HQ1
            obtain ⟨cy, hcy⟩ : ∃ cy, cy = c.getD y 0 := ⟨_, rfl⟩
            have k1 : w2.cell? ⟨b, off + y, none⟩ = some (.int .i64 cy) := by rw [HQ2.out.2.2.1.cell (p := ⟨b, off + y, none⟩) hbw, hcy]; exact HC.out y hyN
            have k0 := HQ2.out.1.cell 3 (by omega)
            have f0 := HQ2.out.1.free 3
            have OWN : Hid (OwnI 3 w2.drew HB (V 3) (way ⟨N, s, r⟩ c x 3 y)) := (HQ2.out.1.own 3 (by omega)).below ((Below.refl _ _).drew) (Nat.le_refl _)
            have NB : Hid (some HW ≠ (V 3).ownBlock) := fun e => by have := (OWN.out.lt HW e.symm).1; omega
            have hGR : Hid (∀ w9 u, Grew w2.drew w9 (V 3) u → OwnI 3 w9 HB u (way ⟨N, s, r⟩ c x 3 y ++ [cy]) → (∃ V2, Ways (w9.setCell ⟨HW, 3, none⟩ u) HW HB V2 (fun k => way ⟨N, s, r⟩ c x k (y + 1))) ∧ Box 24 (w9.setCell ⟨HW, 3, none⟩ u) w.heap.size N s r ∧ Below w.heap.size w (w9.setCell ⟨HW, 3, none⟩ u) ∧ HB ≤ (w9.setCell ⟨HW, 3, none⟩ u).heap.size) := fun w9 u hg hu => by
              have hd : Below w2.heap.size w2 w2.drew := (Below.refl _ _).drew
              have hb9 : Below HB w2 w9 := (hd.mono HQ2.out.2.2.2).trans (hg.below OWN.out HQ2.out.2.2.2)
              have hb7 : Below HW w2 w9 := hb9.mono (by omega)
              have hb8 : Below HW w2 (w9.setCell ⟨HW, 3, none⟩ u) := hb7.setCell (p := ⟨HW, 3, none⟩) (Nat.le_refl _) _
              refine ⟨?_, HQ2.out.2.1.below hb8 (by omega), HQ2.out.2.2.1.trans (hb8.mono (by omega)), Nat.le_trans HQ2.out.2.2.2 hb8.size⟩
              rw [hcy] at hu
              exact ways_yes (HQ2.out.1.down hd) (by omega) HQ2.out.2.2.2 hg hu HK.out.2.1 HK.out.1
            have HLN : Hid ((way ⟨N, s, r⟩ c x 3 y).length ≤ 8) := by have := way_len ⟨N, s, r⟩ c x 3 y; unfold Hid; omega
            have hsz : HB ≤ w2.heap.size := HQ2.out.2.2.2
            have AL : Hid (Below w2.heap.size w2 (w2.alloc (.cells #[.int .i64 cy] 3)).drew) := ((Below.refl _ _).alloc (Nat.le_refl _) _).drew
            have AL2 : Hid (∀ w9 u, Grew w2.drew w9 (V 3) u → w9.cell? ⟨HW, 3, none⟩ = some (V 3) ∧ w9.cell? ⟨b, off + y, none⟩ = some (.int .i64 cy) ∧ w9.frozen? ⟨HW, 3, none⟩ = false) := fun w9 u hg => by
              have hd : Below w2.heap.size w2 w2.drew := (Below.refl _ _).drew
              have hb9 : Below HB w2 w9 := (hd.mono HQ2.out.2.2.2).trans (hg.below OWN.out HQ2.out.2.2.2)
              have hbs : b < HB := by omega
              exact ⟨by rw [hb9.cell (p := ⟨HW, 3, none⟩) hHWB.2]; exact k0, by rw [hb9.cell (p := ⟨b, off + y, none⟩) hbs]; exact k1, by rw [World.frozen?_of_block (w := w2) (hb9.block HW hHWB.2)]; exact f0⟩
            have CF : Hid (w2.cell? ⟨HW, 3, none⟩ = some (V 3) ∧ w2.cell? ⟨b, off + y, none⟩ = some (.int .i64 cy)) := ⟨k0, k1⟩
            have HWL : HW < w2.heap.size := HQ2.out.1.lt
            have BL : b < w2.heap.size := by have := HQ2.out.2.2.1.size; omega
            obtain ⟨vk, hvk⟩ : ∃ vk, vk = V 3 := ⟨_, rfl⟩
            rw [← hvk] at OWN NB hGR AL2 CF
            obtain ⟨ln, hln⟩ : ∃ ln, ln = (way ⟨N, s, r⟩ c x 3 y).length := ⟨_, rfl⟩
            have q0 : ∀ QQ : Wd (fun Q => Q.cell? ⟨HW, 3, none⟩ = some vk ∧ Q.cell? ⟨b, off + y, none⟩ = some (.int .i64 cy)), QQ.w.cell? ⟨HW, 3, none⟩ = some vk := fun QQ => QQ.ok.1
            have q1 : ∀ QQ : Wd (fun Q => Q.cell? ⟨HW, 3, none⟩ = some vk ∧ Q.cell? ⟨b, off + y, none⟩ = some (.int .i64 cy)), QQ.w.cell? ⟨b, off + y, none⟩ = some (.int .i64 cy) := fun QQ => QQ.ok.2
            have hne : Nonempty (Wd (fun Q => Q.cell? ⟨HW, 3, none⟩ = some vk ∧ Q.cell? ⟨b, off + y, none⟩ = some (.int .i64 cy))) := ⟨⟨w2, CF.out⟩⟩
            clear k0 k1 f0 hvk hcy hln
            go_wp2_with fail
            refine chain_last (S := (fun Q => Q.cell? ⟨HW, 3, none⟩ = some vk ∧ Q.cell? ⟨b, off + y, none⟩ = some (.int .i64 cy))) [([true, true, true, true, true, true, true, true], 8), ([], 9)] [false, false, false, false, false, false, false, false, false, false, true] (by kernel_rfl) (by kernel_rfl) (by kernel_rfl) (by kernel_rfl) (by kernel_rfl) (by kernel_rfl) CF.out ?_
            simp only [wpSegs, pickB, List.dropLast_cons_cons, List.dropLast_singleton, List.getLast?_cons_cons, List.getLast?_singleton, List.toList_toArray, List.getElem?_toArray, List.getElem?_cons_succ, List.getElem?_cons_zero, Option.toList_some]
            repeat (go_big_quiet_step (fail))
            refine wpQuiet_nil ?_
            intro K hK
            go_wp2_with fail
            refine hK _ _ ⟨by rw [AL.out.cell (p := ⟨HW, 3, none⟩) HWL]; exact CF.out.1, by rw [AL.out.cell (p := ⟨b, off + y, none⟩) BL]; exact CF.out.2⟩ ?_
            clear hK K
            repeat (go_big_quiet_step (fail))
            refine wpQuiet_nil ?_
            intro K hK
            go_wp2_with (at_builtin; refine wpList_app1 w2.drew rfl (.tmp 37) (.tmp 42) 29 rfl HB 3 (.int .i64 0) 8 Tryz.underlying29 sll.infoInt rfl (by decide) _ _ _ (.int .i64 cy) rfl OWN.out w2.heap.size rfl rfl rfl (by have := HLN.out; omega) hsz ?_)
            intro g1 cap1 w9 hown9 hgr
            have KF := Lib.hid (AL2.out w9 _ hgr)
            have RF := Lib.hid (hGR.out w9 _ hgr (by unfold OwnI; rw [List.length_append, ivs_append]; exact hown9))
            clear hown9 hgr
            go_wp2_with fail
            refine hK _ _ ⟨KF.out.1, KF.out.2.1⟩ ?_
            clear hK K
            repeat (go_big_quiet_step (fail))
            refine wpQuiet_nil ?_
            show wpList _ _ _ _ _ _
            obtain ⟨k0, -, f0⟩ := KF.out
            obtain ⟨⟨V2, r1⟩, r2⟩ := RF.out
            have R := Lib.hid (show _ ∧ _ from ⟨r1, r2⟩)
            clear r1 r2 q0 q1 hne RF
            go_wp2
            go_roundw
            case rel => exact ⟨y + 1, V2, by omega, by go_num, R.out⟩
            case measure => simp [intOf]; omega
    · obtain rfl : N = y := by omega
      obtain ⟨cx, hcx⟩ : ∃ cx, cx = c.getD x 0 := ⟨_, rfl⟩
      have k9 : wr.cell? ⟨b, off + x, none⟩ = some (.int .i64 cx) := by rw [HQ.out.2.2.1.cell (p := ⟨b, off + x, none⟩) hbw, hcx]; exact HC.out x hx
      have c0 := HQ.out.1.cell 0 (by omega)
      have c1 := HQ.out.1.cell 1 (by omega)
      have c2 := HQ.out.1.cell 2 (by omega)
      have c3 := HQ.out.1.cell 3 (by omega)
      have AL : Below wr.heap.size wr (wr.alloc (.cells #[.int .i64 cx] 3)) := (Below.refl _ _).alloc (Nat.le_refl _) _
      have HWL : HW < wr.heap.size := HQ.out.1.lt
      have d0 : (wr.alloc (.cells #[.int .i64 cx] 3)).cell? ⟨HW, 0, none⟩ = some (V 0) := by rw [AL.cell (p := ⟨HW, 0, none⟩) HWL]; exact c0
      have d1 : (wr.alloc (.cells #[.int .i64 cx] 3)).cell? ⟨HW, 1, none⟩ = some (V 1) := by rw [AL.cell (p := ⟨HW, 1, none⟩) HWL]; exact c1
      have d2 : (wr.alloc (.cells #[.int .i64 cx] 3)).cell? ⟨HW, 2, none⟩ = some (V 2) := by rw [AL.cell (p := ⟨HW, 2, none⟩) HWL]; exact c2
      have d3 : (wr.alloc (.cells #[.int .i64 cx] 3)).cell? ⟨HW, 3, none⟩ = some (V 3) := by rw [AL.cell (p := ⟨HW, 3, none⟩) HWL]; exact c3
      have AP : Hid ((∀ i j, i < 4 → j < 4 → i ≠ j → Apart (V i) (V j)) ∧ ∀ k, k < 4 → way ⟨N, s, r⟩ c x k N = [] → V k = .slice none 0 0) := ⟨HQ.out.1.apart, HQ.out.1.nil⟩
      have ST : Hid (OwnI 3 (wr.alloc (.cells #[.int .i64 cx] 3)) w.heap.size (.slice (some ⟨wr.heap.size, 0, none⟩) 1 1) (descTo ⟨N, s, r⟩ c x 0) ∧ (∀ j, 0 ≤ j → j < 4 → OwnI 3 (wr.alloc (.cells #[.int .i64 cx] 3)) HB (V j) (way ⟨N, s, r⟩ c x j N) ∧ Apart (.slice (some ⟨wr.heap.size, 0, none⟩) 1 1) (V j)) ∧ Below w.heap.size w (wr.alloc (.cells #[.int .i64 cx] 3))) := by
        refine ⟨by rw [descTo_zero, ← hcx]; exact kind.oneRow _ _ _ _ _ rfl HQ.out.2.2.1.size, fun j _ hj => ⟨(HQ.out.1.own j hj).below AL (Nat.le_refl _), fun q hq hq2 => ?_⟩, HQ.out.2.2.1.trans (AL.mono HQ.out.2.2.1.size)⟩
        have := ((HQ.out.1.own j hj).lt q hq2).2
        have : wr.heap.size = q := Option.some.inj hq
        omega
      clear HQ AL hcx
      obtain ⟨v0, hv0⟩ : ∃ v0, v0 = V 0 := ⟨_, rfl⟩
      obtain ⟨v1, hv1⟩ : ∃ v1, v1 = V 1 := ⟨_, rfl⟩
      obtain ⟨v2, hv2⟩ : ∃ v2, v2 = V 2 := ⟨_, rfl⟩
      obtain ⟨v3, hv3⟩ : ∃ v3, v3 = V 3 := ⟨_, rfl⟩
      rw [← hv0] at d0 c0
      rw [← hv1] at d1 c1
      rw [← hv2] at d2 c2
      rw [← hv3] at d3 c3
      have HV := Lib.hid (show _ ∧ _ ∧ _ ∧ _ from ⟨hv0, hv1, hv2, hv3⟩)
      clear hv0 hv1 hv2 hv3
      go_wp2_with fail
      clear c0 c1 c2 c3 d0 d1 d2 d3 k9
      go_loopw [10, 52] (fun u i wr => ∃ k : Nat, k ≤ 4 ∧ i = .int .i64 k ∧ OwnI 3 wr w.heap.size u (descTo ⟨N, s, r⟩ c x k) ∧ (∀ j, k ≤ j → j < 4 → OwnI 3 wr HB (V j) (way ⟨N, s, r⟩ c x j N) ∧ Apart u (V j)) ∧ Below w.heap.size w wr) (fun _ i _ => 4 - (intOf i).toNat)
      case atStart => exact ⟨0, by omega, rfl, ST.out⟩
      case round =>
        clear ST
        obtain ⟨k, hk, rfl, q1, q2, q3⟩ := hrel
        have HL := Lib.hid (descTo_len ⟨N, s, r⟩ c x k)
        have HS := Lib.hid (descTo_succ ⟨N, s, r⟩ c x k)
        obtain ⟨D, hD⟩ : ∃ D, D = descTo ⟨N, s, r⟩ c x k := ⟨_, rfl⟩
        rw [← hD] at q1 HL HS
        have HD := Lib.hid hD
        have HQ := Lib.hid (show _ ∧ _ ∧ _ from ⟨q1, q2, q3⟩)
        clear q1 q2 q3 hD
        by_cases hk4 : k < 4
        · have hDl : Hid (D.length ≤ 40) := by
            have h2 : k * (N + 1) ≤ 4 * 9 := Nat.mul_le_mul hk (by omega)
            have := HL.out
            unfold Hid; simp only at this; omega
          clear HL
          have h03 : k = 0 ∨ k = 1 ∨ k = 2 ∨ k = 3 := by omega
          rcases h03 with rfl | rfl | rfl | rfl
          · obtain ⟨L, hL⟩ : ∃ L, L = way ⟨N, s, r⟩ c x 0 N := ⟨_, rfl⟩
            have hLl : L.length ≤ 8 := by rw [hL]; have := way_len ⟨N, s, r⟩ c x 0 N; omega
            have HLL := Lib.hid (show _ ∧ _ from ⟨hL, hLl⟩)
            have hne : Hid (L = [] → v0 = .slice none 0 0) := fun h => by rw [HV.out.1]; exact AP.out.2 0 (by omega) (by rw [← hL]; exact h)
            have OWK : Hid (OwnI 3 wr HB v0 L ∧ Apart u10 v0) := by
              have := HQ.out.2.1 0 (Nat.le_refl _) (by omega)
              rw [← HV.out.1, ← hL] at this; exact this
            clear hL hLl
            have ix : ∀ w : World, (Instr.index 127 (.agg #[v0, v1, v2, v3]) (.int .i64 0)).run Tryz.prog w = .ok v0 w := fun _ => by kernel_rfl
            go_wp2_with fail
            clear ix
            refine (sortI_any v0 L _ HB OWK.out.1 (by have := HLL.out.2; omega)).mono ?_
            rintro e w1 ⟨rfl, ho, hg⟩
            have hbg : Below w.heap.size wr w1 := below_of_grown hg HQ.out.2.2.size fun q hq => by have := (OWK.out.1.lt q hq).1; omega
            have Q1 : Hid (OwnI 3 w1 w.heap.size u10 D ∧ OwnI 3 w1 HB v0 (sortI L) ∧ (∀ j, 0 + 1 ≤ j → j < 4 → OwnI 3 w1 HB (V j) (way ⟨N, s, r⟩ c x j N) ∧ Apart u10 (V j)) ∧ Below w.heap.size w w1 ∧ Apart u10 v0) :=
              ⟨HQ.out.1.keepMark hg OWK.out.2, ho, fun j hj hj4 => ⟨(HQ.out.2.1 j (by omega) hj4).1.keepMark hg (by rw [HV.out.1]; exact AP.out.1 j 0 hj4 (by omega) (by omega)), (HQ.out.2.1 j (by omega) hj4).2⟩, HQ.out.2.2.trans hbg, OWK.out.2⟩
            clear ho hg hbg OWK HQ
            obtain ⟨vl, va, vc, hvk⟩ : ∃ vl va vc, v0 = .slice va vl vc ∧ vl = L.length := by
              rcases Q1.out.2.1.shape with ⟨h, h0⟩ | ⟨g, cp, h⟩
              · exact ⟨0, none, 0, h, by rw [← sortI_len L, h0]; rfl⟩
              · exact ⟨L.length, _, cp, by rw [h, sortI_len], rfl⟩
            obtain ⟨hvk, hvl⟩ := hvk
            have VK := Lib.hid hvk
            have VL := Lib.hid hvl
            rw [hvk]
            clear hvk hvl
            have hsz : w.heap.size ≤ w1.heap.size := Q1.out.2.2.2.1.size
            go_wp2_with (at_builtin; refine wpList_app1 w1 rfl (.tmp 57) (.tmp 60) 29 rfl w.heap.size 3 (.int .i64 0) 8 Tryz.underlying29 sll.infoInt rfl (by decide) _ _ _ (.int .i64 vl) rfl Q1.out.1 w1.heap.size rfl rfl rfl (by have := hDl.out; omega) hsz ?_)
            intro g1 cap1 w2 hown2 hgr
            have Q2 : Hid (OwnI 3 w2 w.heap.size (.slice (some ⟨g1, 0, none⟩) (D.length + 1) cap1) (D ++ [(vl : Int)]) ∧ OwnI 3 w2 HB (.slice va vl vc) (sortI L) ∧ (∀ j, 0 + 1 ≤ j → j < 4 → OwnI 3 w2 HB (V j) (way ⟨N, s, r⟩ c x j N) ∧ Apart (.slice (some ⟨g1, 0, none⟩) (D.length + 1) cap1) (V j)) ∧ Below w.heap.size w w2 ∧ Apart (.slice (some ⟨g1, 0, none⟩) (D.length + 1) cap1) (.slice va vl vc)) := by
              have hk1 := hgr.keep Q1.out.2.1 Q1.out.2.2.2.2
              rw [VK.out] at hk1
              exact ⟨by unfold OwnI; rw [List.length_append, ivs_append]; exact hown2, hk1.1, fun j hj hj4 => hgr.keep (Q1.out.2.2.1 j hj hj4).1 (Q1.out.2.2.1 j hj hj4).2, Q1.out.2.2.2.1.trans (hgr.below Q1.out.1 hsz), hk1.2⟩
            clear hown2 hgr hsz Q1
            have hsz2 : w.heap.size ≤ w2.heap.size := Q2.out.2.2.2.1.size
            have hl2 : (D ++ [(vl : Int)]).length + (sortI L).length ≤ 4398046511104 := by
              rw [List.length_append, sortI_len]; have := hDl.out; have := HLL.out.2; simp; omega
            go_wp2_with (at_builtin; refine wpList_appO w2 rfl (.tmp 61) (.tmp 62) 29 rfl w.heap.size HB 3 Tryz.underlying29 sll.infoInt _ _ rfl Q2.out.1 _ _ rfl Q2.out.2.1 (fun h => by rw [← VK.out]; exact hne.out (List.length_eq_zero_iff.1 (by rw [← sortI_len, h]; rfl))) hl2 hsz2 ?_)
            intro v9 w3 ho3 hgr
            have R : Hid (OwnI 3 w3 w.heap.size v9 (descTo ⟨N, s, r⟩ c x (0 + 1)) ∧ (∀ j, 0 + 1 ≤ j → j < 4 → OwnI 3 w3 HB (V j) (way ⟨N, s, r⟩ c x j N) ∧ Apart v9 (V j)) ∧ Below w.heap.size w w3) := by
              refine ⟨?_, fun j hj hj4 => hgr.keep (Q2.out.2.2.1 j hj hj4).1 (Q2.out.2.2.1 j hj hj4).2, Q2.out.2.2.2.1.trans (hgr.below Q2.out.1 hsz2)⟩
              rw [HS.out, ← HLL.out.1, ← VL.out, List.append_assoc]; exact ho3
            clear ho3 hgr hsz2 hl2 Q2
            go_wp2
            go_roundw
            case rel =>
              try rw [VK.out]
              first | exact ⟨0 + 1, by omega, by go_num, R.out⟩ | ((repeat apply Exists.intro); exact ⟨⟨0 + 1, by omega, by go_num, R.out⟩, rfl⟩)
            case measure => simp [intOf]
          · obtain ⟨L, hL⟩ : ∃ L, L = way ⟨N, s, r⟩ c x 1 N := ⟨_, rfl⟩
            have hLl : L.length ≤ 8 := by rw [hL]; have := way_len ⟨N, s, r⟩ c x 1 N; omega
            have HLL := Lib.hid (show _ ∧ _ from ⟨hL, hLl⟩)
            have hne : Hid (L = [] → v1 = .slice none 0 0) := fun h => by rw [HV.out.2.1]; exact AP.out.2 1 (by omega) (by rw [← hL]; exact h)
            have OWK : Hid (OwnI 3 wr HB v1 L ∧ Apart u10 v1) := by
              have := HQ.out.2.1 1 (Nat.le_refl _) (by omega)
              rw [← HV.out.2.1, ← hL] at this; exact this
            clear hL hLl
            have ix : ∀ w : World, (Instr.index 127 (.agg #[v0, v1, v2, v3]) (.int .i64 1)).run Tryz.prog w = .ok v1 w := fun _ => by kernel_rfl
            go_wp2_with fail
            clear ix
            refine (sortI_any v1 L _ HB OWK.out.1 (by have := HLL.out.2; omega)).mono ?_
            rintro e w1 ⟨rfl, ho, hg⟩
            have hbg : Below w.heap.size wr w1 := below_of_grown hg HQ.out.2.2.size fun q hq => by have := (OWK.out.1.lt q hq).1; omega
            have Q1 : Hid (OwnI 3 w1 w.heap.size u10 D ∧ OwnI 3 w1 HB v1 (sortI L) ∧ (∀ j, 1 + 1 ≤ j → j < 4 → OwnI 3 w1 HB (V j) (way ⟨N, s, r⟩ c x j N) ∧ Apart u10 (V j)) ∧ Below w.heap.size w w1 ∧ Apart u10 v1) :=
              ⟨HQ.out.1.keepMark hg OWK.out.2, ho, fun j hj hj4 => ⟨(HQ.out.2.1 j (by omega) hj4).1.keepMark hg (by rw [HV.out.2.1]; exact AP.out.1 j 1 hj4 (by omega) (by omega)), (HQ.out.2.1 j (by omega) hj4).2⟩, HQ.out.2.2.trans hbg, OWK.out.2⟩
            clear ho hg hbg OWK HQ
            obtain ⟨vl, va, vc, hvk⟩ : ∃ vl va vc, v1 = .slice va vl vc ∧ vl = L.length := by
              rcases Q1.out.2.1.shape with ⟨h, h0⟩ | ⟨g, cp, h⟩
              · exact ⟨0, none, 0, h, by rw [← sortI_len L, h0]; rfl⟩
              · exact ⟨L.length, _, cp, by rw [h, sortI_len], rfl⟩
            obtain ⟨hvk, hvl⟩ := hvk
            have VK := Lib.hid hvk
            have VL := Lib.hid hvl
            rw [hvk]
            clear hvk hvl
            have hsz : w.heap.size ≤ w1.heap.size := Q1.out.2.2.2.1.size
            go_wp2_with (at_builtin; refine wpList_app1 w1 rfl (.tmp 57) (.tmp 60) 29 rfl w.heap.size 3 (.int .i64 0) 8 Tryz.underlying29 sll.infoInt rfl (by decide) _ _ _ (.int .i64 vl) rfl Q1.out.1 w1.heap.size rfl rfl rfl (by have := hDl.out; omega) hsz ?_)
            intro g1 cap1 w2 hown2 hgr
            have Q2 : Hid (OwnI 3 w2 w.heap.size (.slice (some ⟨g1, 0, none⟩) (D.length + 1) cap1) (D ++ [(vl : Int)]) ∧ OwnI 3 w2 HB (.slice va vl vc) (sortI L) ∧ (∀ j, 1 + 1 ≤ j → j < 4 → OwnI 3 w2 HB (V j) (way ⟨N, s, r⟩ c x j N) ∧ Apart (.slice (some ⟨g1, 0, none⟩) (D.length + 1) cap1) (V j)) ∧ Below w.heap.size w w2 ∧ Apart (.slice (some ⟨g1, 0, none⟩) (D.length + 1) cap1) (.slice va vl vc)) := by
              have hk1 := hgr.keep Q1.out.2.1 Q1.out.2.2.2.2
              rw [VK.out] at hk1
              exact ⟨by unfold OwnI; rw [List.length_append, ivs_append]; exact hown2, hk1.1, fun j hj hj4 => hgr.keep (Q1.out.2.2.1 j hj hj4).1 (Q1.out.2.2.1 j hj hj4).2, Q1.out.2.2.2.1.trans (hgr.below Q1.out.1 hsz), hk1.2⟩
            clear hown2 hgr hsz Q1
            have hsz2 : w.heap.size ≤ w2.heap.size := Q2.out.2.2.2.1.size
            have hl2 : (D ++ [(vl : Int)]).length + (sortI L).length ≤ 4398046511104 := by
              rw [List.length_append, sortI_len]; have := hDl.out; have := HLL.out.2; simp; omega
            go_wp2_with (at_builtin; refine wpList_appO w2 rfl (.tmp 61) (.tmp 62) 29 rfl w.heap.size HB 3 Tryz.underlying29 sll.infoInt _ _ rfl Q2.out.1 _ _ rfl Q2.out.2.1 (fun h => by rw [← VK.out]; exact hne.out (List.length_eq_zero_iff.1 (by rw [← sortI_len, h]; rfl))) hl2 hsz2 ?_)
            intro v9 w3 ho3 hgr
            have R : Hid (OwnI 3 w3 w.heap.size v9 (descTo ⟨N, s, r⟩ c x (1 + 1)) ∧ (∀ j, 1 + 1 ≤ j → j < 4 → OwnI 3 w3 HB (V j) (way ⟨N, s, r⟩ c x j N) ∧ Apart v9 (V j)) ∧ Below w.heap.size w w3) := by
              refine ⟨?_, fun j hj hj4 => hgr.keep (Q2.out.2.2.1 j hj hj4).1 (Q2.out.2.2.1 j hj hj4).2, Q2.out.2.2.2.1.trans (hgr.below Q2.out.1 hsz2)⟩
              rw [HS.out, ← HLL.out.1, ← VL.out, List.append_assoc]; exact ho3
            clear ho3 hgr hsz2 hl2 Q2
            go_wp2
            go_roundw
            case rel =>
              try rw [VK.out]
              first | exact ⟨1 + 1, by omega, by go_num, R.out⟩ | ((repeat apply Exists.intro); exact ⟨⟨1 + 1, by omega, by go_num, R.out⟩, rfl⟩)
            case measure => simp [intOf]
          · obtain ⟨L, hL⟩ : ∃ L, L = way ⟨N, s, r⟩ c x 2 N := ⟨_, rfl⟩
            have hLl : L.length ≤ 8 := by rw [hL]; have := way_len ⟨N, s, r⟩ c x 2 N; omega
            have HLL := Lib.hid (show _ ∧ _ from ⟨hL, hLl⟩)
            have hne : Hid (L = [] → v2 = .slice none 0 0) := fun h => by rw [HV.out.2.2.1]; exact AP.out.2 2 (by omega) (by rw [← hL]; exact h)
            have OWK : Hid (OwnI 3 wr HB v2 L ∧ Apart u10 v2) := by
              have := HQ.out.2.1 2 (Nat.le_refl _) (by omega)
              rw [← HV.out.2.2.1, ← hL] at this; exact this
            clear hL hLl
            have ix : ∀ w : World, (Instr.index 127 (.agg #[v0, v1, v2, v3]) (.int .i64 2)).run Tryz.prog w = .ok v2 w := fun _ => by kernel_rfl
            go_wp2_with fail
            clear ix
            refine (sortI_any v2 L _ HB OWK.out.1 (by have := HLL.out.2; omega)).mono ?_
            rintro e w1 ⟨rfl, ho, hg⟩
            have hbg : Below w.heap.size wr w1 := below_of_grown hg HQ.out.2.2.size fun q hq => by have := (OWK.out.1.lt q hq).1; omega
            have Q1 : Hid (OwnI 3 w1 w.heap.size u10 D ∧ OwnI 3 w1 HB v2 (sortI L) ∧ (∀ j, 2 + 1 ≤ j → j < 4 → OwnI 3 w1 HB (V j) (way ⟨N, s, r⟩ c x j N) ∧ Apart u10 (V j)) ∧ Below w.heap.size w w1 ∧ Apart u10 v2) :=
              ⟨HQ.out.1.keepMark hg OWK.out.2, ho, fun j hj hj4 => ⟨(HQ.out.2.1 j (by omega) hj4).1.keepMark hg (by rw [HV.out.2.2.1]; exact AP.out.1 j 2 hj4 (by omega) (by omega)), (HQ.out.2.1 j (by omega) hj4).2⟩, HQ.out.2.2.trans hbg, OWK.out.2⟩
            clear ho hg hbg OWK HQ
            obtain ⟨vl, va, vc, hvk⟩ : ∃ vl va vc, v2 = .slice va vl vc ∧ vl = L.length := by
              rcases Q1.out.2.1.shape with ⟨h, h0⟩ | ⟨g, cp, h⟩
              · exact ⟨0, none, 0, h, by rw [← sortI_len L, h0]; rfl⟩
              · exact ⟨L.length, _, cp, by rw [h, sortI_len], rfl⟩
            obtain ⟨hvk, hvl⟩ := hvk
            have VK := Lib.hid hvk
            have VL := Lib.hid hvl
            rw [hvk]
            clear hvk hvl
            have hsz : w.heap.size ≤ w1.heap.size := Q1.out.2.2.2.1.size
            go_wp2_with (at_builtin; refine wpList_app1 w1 rfl (.tmp 57) (.tmp 60) 29 rfl w.heap.size 3 (.int .i64 0) 8 Tryz.underlying29 sll.infoInt rfl (by decide) _ _ _ (.int .i64 vl) rfl Q1.out.1 w1.heap.size rfl rfl rfl (by have := hDl.out; omega) hsz ?_)
            intro g1 cap1 w2 hown2 hgr
            have Q2 : Hid (OwnI 3 w2 w.heap.size (.slice (some ⟨g1, 0, none⟩) (D.length + 1) cap1) (D ++ [(vl : Int)]) ∧ OwnI 3 w2 HB (.slice va vl vc) (sortI L) ∧ (∀ j, 2 + 1 ≤ j → j < 4 → OwnI 3 w2 HB (V j) (way ⟨N, s, r⟩ c x j N) ∧ Apart (.slice (some ⟨g1, 0, none⟩) (D.length + 1) cap1) (V j)) ∧ Below w.heap.size w w2 ∧ Apart (.slice (some ⟨g1, 0, none⟩) (D.length + 1) cap1) (.slice va vl vc)) := by
              have hk1 := hgr.keep Q1.out.2.1 Q1.out.2.2.2.2
              rw [VK.out] at hk1
              exact ⟨by unfold OwnI; rw [List.length_append, ivs_append]; exact hown2, hk1.1, fun j hj hj4 => hgr.keep (Q1.out.2.2.1 j hj hj4).1 (Q1.out.2.2.1 j hj hj4).2, Q1.out.2.2.2.1.trans (hgr.below Q1.out.1 hsz), hk1.2⟩
            clear hown2 hgr hsz Q1
            have hsz2 : w.heap.size ≤ w2.heap.size := Q2.out.2.2.2.1.size
            have hl2 : (D ++ [(vl : Int)]).length + (sortI L).length ≤ 4398046511104 := by
              rw [List.length_append, sortI_len]; have := hDl.out; have := HLL.out.2; simp; omega
            go_wp2_with (at_builtin; refine wpList_appO w2 rfl (.tmp 61) (.tmp 62) 29 rfl w.heap.size HB 3 Tryz.underlying29 sll.infoInt _ _ rfl Q2.out.1 _ _ rfl Q2.out.2.1 (fun h => by rw [← VK.out]; exact hne.out (List.length_eq_zero_iff.1 (by rw [← sortI_len, h]; rfl))) hl2 hsz2 ?_)
            intro v9 w3 ho3 hgr
            have R : Hid (OwnI 3 w3 w.heap.size v9 (descTo ⟨N, s, r⟩ c x (2 + 1)) ∧ (∀ j, 2 + 1 ≤ j → j < 4 → OwnI 3 w3 HB (V j) (way ⟨N, s, r⟩ c x j N) ∧ Apart v9 (V j)) ∧ Below w.heap.size w w3) := by
              refine ⟨?_, fun j hj hj4 => hgr.keep (Q2.out.2.2.1 j hj hj4).1 (Q2.out.2.2.1 j hj hj4).2, Q2.out.2.2.2.1.trans (hgr.below Q2.out.1 hsz2)⟩
              rw [HS.out, ← HLL.out.1, ← VL.out, List.append_assoc]; exact ho3
            clear ho3 hgr hsz2 hl2 Q2
            go_wp2
            go_roundw
            case rel =>
              try rw [VK.out]
              first | exact ⟨2 + 1, by omega, by go_num, R.out⟩ | ((repeat apply Exists.intro); exact ⟨⟨2 + 1, by omega, by go_num, R.out⟩, rfl⟩)
            case measure => simp [intOf]
          · obtain ⟨L, hL⟩ : ∃ L, L = way ⟨N, s, r⟩ c x 3 N := ⟨_, rfl⟩
            have hLl : L.length ≤ 8 := by rw [hL]; have := way_len ⟨N, s, r⟩ c x 3 N; omega
            have HLL := Lib.hid (show _ ∧ _ from ⟨hL, hLl⟩)
            have hne : Hid (L = [] → v3 = .slice none 0 0) := fun h => by rw [HV.out.2.2.2]; exact AP.out.2 3 (by omega) (by rw [← hL]; exact h)
            have OWK : Hid (OwnI 3 wr HB v3 L ∧ Apart u10 v3) := by
              have := HQ.out.2.1 3 (Nat.le_refl _) (by omega)
              rw [← HV.out.2.2.2, ← hL] at this; exact this
            clear hL hLl
            have ix : ∀ w : World, (Instr.index 127 (.agg #[v0, v1, v2, v3]) (.int .i64 3)).run Tryz.prog w = .ok v3 w := fun _ => by kernel_rfl
            go_wp2_with fail
            clear ix
            refine (sortI_any v3 L _ HB OWK.out.1 (by have := HLL.out.2; omega)).mono ?_
            rintro e w1 ⟨rfl, ho, hg⟩
            have hbg : Below w.heap.size wr w1 := below_of_grown hg HQ.out.2.2.size fun q hq => by have := (OWK.out.1.lt q hq).1; omega
            have Q1 : Hid (OwnI 3 w1 w.heap.size u10 D ∧ OwnI 3 w1 HB v3 (sortI L) ∧ (∀ j, 3 + 1 ≤ j → j < 4 → OwnI 3 w1 HB (V j) (way ⟨N, s, r⟩ c x j N) ∧ Apart u10 (V j)) ∧ Below w.heap.size w w1 ∧ Apart u10 v3) :=
              ⟨HQ.out.1.keepMark hg OWK.out.2, ho, fun j hj hj4 => ⟨(HQ.out.2.1 j (by omega) hj4).1.keepMark hg (by rw [HV.out.2.2.2]; exact AP.out.1 j 3 hj4 (by omega) (by omega)), (HQ.out.2.1 j (by omega) hj4).2⟩, HQ.out.2.2.trans hbg, OWK.out.2⟩
            clear ho hg hbg OWK HQ
            obtain ⟨vl, va, vc, hvk⟩ : ∃ vl va vc, v3 = .slice va vl vc ∧ vl = L.length := by
              rcases Q1.out.2.1.shape with ⟨h, h0⟩ | ⟨g, cp, h⟩
              · exact ⟨0, none, 0, h, by rw [← sortI_len L, h0]; rfl⟩
              · exact ⟨L.length, _, cp, by rw [h, sortI_len], rfl⟩
            obtain ⟨hvk, hvl⟩ := hvk
            have VK := Lib.hid hvk
            have VL := Lib.hid hvl
            rw [hvk]
            clear hvk hvl
            have hsz : w.heap.size ≤ w1.heap.size := Q1.out.2.2.2.1.size
            go_wp2_with (at_builtin; refine wpList_app1 w1 rfl (.tmp 57) (.tmp 60) 29 rfl w.heap.size 3 (.int .i64 0) 8 Tryz.underlying29 sll.infoInt rfl (by decide) _ _ _ (.int .i64 vl) rfl Q1.out.1 w1.heap.size rfl rfl rfl (by have := hDl.out; omega) hsz ?_)
            intro g1 cap1 w2 hown2 hgr
            have Q2 : Hid (OwnI 3 w2 w.heap.size (.slice (some ⟨g1, 0, none⟩) (D.length + 1) cap1) (D ++ [(vl : Int)]) ∧ OwnI 3 w2 HB (.slice va vl vc) (sortI L) ∧ (∀ j, 3 + 1 ≤ j → j < 4 → OwnI 3 w2 HB (V j) (way ⟨N, s, r⟩ c x j N) ∧ Apart (.slice (some ⟨g1, 0, none⟩) (D.length + 1) cap1) (V j)) ∧ Below w.heap.size w w2 ∧ Apart (.slice (some ⟨g1, 0, none⟩) (D.length + 1) cap1) (.slice va vl vc)) := by
              have hk1 := hgr.keep Q1.out.2.1 Q1.out.2.2.2.2
              rw [VK.out] at hk1
              exact ⟨by unfold OwnI; rw [List.length_append, ivs_append]; exact hown2, hk1.1, fun j hj hj4 => hgr.keep (Q1.out.2.2.1 j hj hj4).1 (Q1.out.2.2.1 j hj hj4).2, Q1.out.2.2.2.1.trans (hgr.below Q1.out.1 hsz), hk1.2⟩
            clear hown2 hgr hsz Q1
            have hsz2 : w.heap.size ≤ w2.heap.size := Q2.out.2.2.2.1.size
            have hl2 : (D ++ [(vl : Int)]).length + (sortI L).length ≤ 4398046511104 := by
              rw [List.length_append, sortI_len]; have := hDl.out; have := HLL.out.2; simp; omega
            go_wp2_with (at_builtin; refine wpList_appO w2 rfl (.tmp 61) (.tmp 62) 29 rfl w.heap.size HB 3 Tryz.underlying29 sll.infoInt _ _ rfl Q2.out.1 _ _ rfl Q2.out.2.1 (fun h => by rw [← VK.out]; exact hne.out (List.length_eq_zero_iff.1 (by rw [← sortI_len, h]; rfl))) hl2 hsz2 ?_)
            intro v9 w3 ho3 hgr
            have R : Hid (OwnI 3 w3 w.heap.size v9 (descTo ⟨N, s, r⟩ c x (3 + 1)) ∧ (∀ j, 3 + 1 ≤ j → j < 4 → OwnI 3 w3 HB (V j) (way ⟨N, s, r⟩ c x j N) ∧ Apart v9 (V j)) ∧ Below w.heap.size w w3) := by
              refine ⟨?_, fun j hj hj4 => hgr.keep (Q2.out.2.2.1 j hj hj4).1 (Q2.out.2.2.1 j hj hj4).2, Q2.out.2.2.2.1.trans (hgr.below Q2.out.1 hsz2)⟩
              rw [HS.out, ← HLL.out.1, ← VL.out, List.append_assoc]; exact ho3
            clear ho3 hgr hsz2 hl2 Q2
            go_wp2
            go_roundw
            case rel =>
              try rw [VK.out]
              first | exact ⟨3 + 1, by omega, by go_num, R.out⟩ | ((repeat apply Exists.intro); exact ⟨⟨3 + 1, by omega, by go_num, R.out⟩, rfl⟩)
            case measure => simp [intOf]
        · obtain rfl : k = 4 := by omega
          go_wp2
          go_ret
          exact ⟨_, rfl, by rw [HD.out] at HQ; exact HQ.out.1, HQ.out.2.2⟩
end Go.Proofs.YtpcnoiigbmiejaaGreatDoor.desci

/- slices.CompactFunc at a sorted list of lists of numbers. -/
namespace Go.Proofs.YtpcnoiigbmiejaaGreatDoor.cmp
set_option linter.unusedVariables false
set_option linter.unusedSimpArgs false
open Go.ChangeShapes Go.WideShapes Go.ChangeAt Go.RowKit
open Go.Proofs.YtpcnoiigbmiejaaGreatDoor.lib Go.Proofs.YtpcnoiigbmiejaaGreatDoor.sll Go.Proofs.YtpcnoiigbmiejaaGreatDoor.colp Go.Proofs.YtpcnoiigbmiejaaGreatDoor.less Go.Proofs.YtpcnoiigbmiejaaGreatDoor.flow Go.Proofs.YtpcnoiigbmiejaaGreatDoor.chain

theorem ownL_form {w : World} {B g n cap : Nat} {L : List (List Int)} (h : OwnL w B (.slice (some ⟨g, 0, none⟩) n cap) L) : n = L.length ∧ n ≤ cap ∧ cap ≤ maxLen ∧ B ≤ g ∧ g < w.heap.size := by
  obtain ⟨us, hl, ho, hr⟩ := h
  have hlt := ho.lt g rfl
  rcases ho.2 with ⟨h', _⟩ | ⟨g', cap', cur, hv, -, -, hc, hm, -⟩
  · simp at h'
  · simp only [Value.slice.injEq] at hv
    obtain ⟨-, rfl, rfl⟩ := hv
    exact ⟨hl, hc, hm, hlt⟩
theorem ownL_at {w : World} {B g n cap : Nat} {L : List (List Int)} (h : OwnL w B (.slice (some ⟨g, 0, none⟩) n cap) L) {i : Nat} (hi : i < L.length) :
    ∃ ao c l, L.getD i [] = l ∧ w.cell? ⟨g, i, none⟩ = some (.slice ao l.length c) ∧ Reads w (.slice ao l.length c) l ∧ l ≠ [] ∧ (Value.slice ao l.length c).ownBlock ≠ some g ∧ w.frozen? ⟨g, i, none⟩ = false := by
  obtain ⟨hn, -⟩ := ownL_form h
  obtain ⟨us, hl, ho, hr⟩ := h
  rw [show us.length = n by omega] at ho
  obtain ⟨h1, h2, h3⟩ := hr i hi
  have hc := ho.cellAt i (by omega)
  have hf := ho.frozenAt i
  have hu : us[i]? = some (us.getD i undef) := by rw [List.getD_eq_getElem?_getD, List.getElem?_eq_getElem (by omega)]; rfl
  rw [hu] at hc
  obtain ⟨ao, c, he⟩ := h2.len
  rw [he] at hc h2 h3
  exact ⟨ao, c, _, rfl, hc, h2, h1, h3 g rfl, hf⟩
theorem ownL_set {w : World} {B g n cap : Nat} {L : List (List Int)} {u : Value} {l : List Int} (h : OwnL w B (.slice (some ⟨g, 0, none⟩) n cap) L) {i : Nat} (hi : i < L.length) (hu : Reads w u l) (hne : l ≠ []) (hug : u.ownBlock ≠ some g) :
    OwnL (w.setCell ⟨g, i, none⟩ u) B (.slice (some ⟨g, 0, none⟩) n cap) (L.set i l) := by
  obtain ⟨hn, -⟩ := ownL_form h
  obtain ⟨us, hl, ho, hr⟩ := h
  rw [show us.length = n by omega] at ho
  obtain ⟨hs, hg⟩ := ho.stored i u
  refine ⟨us.set i u, by simp [hl], by rw [show (us.set i u).length = n by simp; omega]; exact hs, fun j hj => ?_⟩
  have hj' : j < L.length := by simpa using hj
  have hk : ∀ (x : Value) (m : List Int), Reads w x m → x.ownBlock ≠ some g → Reads (w.setCell ⟨g, i, none⟩ u) x m := fun x m hx hxg =>
    reads_kept hx hg fun k hk => by have := Option.some.inj hk; subst this; exact hxg
  by_cases e : i = j
  · subst e
    have e1 : (L.set i l).getD i [] = l := by rw [List.getD_eq_getElem?_getD, List.getElem?_set_self (by omega)]; rfl
    have e2 : (us.set i u).getD i undef = u := by rw [List.getD_eq_getElem?_getD, List.getElem?_set_self (by omega)]; rfl
    rw [e1, e2]
    exact ⟨hne, hk _ _ hu hug, fun k hk2 => by have := Option.some.inj hk2; subst this; exact hug⟩
  · have e1 : (L.set i l).getD j [] = L.getD j [] := by rw [List.getD_eq_getElem?_getD, List.getElem?_set_ne e, ← List.getD_eq_getElem?_getD]
    have e2 : (us.set i u).getD j undef = us.getD j undef := by rw [List.getD_eq_getElem?_getD, List.getElem?_set_ne e, ← List.getD_eq_getElem?_getD]
    rw [e1, e2]
    exact ⟨(hr j hj').1, hk _ _ (hr j hj').2.1 ((hr j hj').2.2 g rfl), (hr j hj').2.2⟩
theorem own_sets {T : TypeId} {B g n cap : Nat} : ∀ (vs : List Value) (o : Nat) (w : World) (xs : List Value), w.ownsRow B T 1 (.slice (some ⟨g, 0, none⟩) n cap) n xs →
    ∃ ys, (w.setCells g o vs).ownsRow B T 1 (.slice (some ⟨g, 0, none⟩) n cap) n ys ∧ ys.take o = xs.take o ∧ w.grownBy (w.setCells g o vs) (some g)
  | [], o, w, xs, h => ⟨xs, h, rfl, ⟨rfl, rfl, rfl, Nat.le_refl _, fun _ _ _ => rfl⟩⟩
  | v :: vs, o, w, xs, h => by
    obtain ⟨h1, h2⟩ := h.stored o v
    obtain ⟨ys, h3, h4, h5⟩ := own_sets vs (o + 1) _ _ h1
    refine ⟨ys, h3, ?_, ⟨h5.os.trans h2.os, h5.tape.trans h2.tape, h5.output.trans h2.output, Nat.le_trans h2.size h5.size, fun k hk hne => (h5.block k (Nat.lt_of_lt_of_le hk h2.size) hne).trans (h2.block k hk hne)⟩⟩
    have e := congrArg (List.take o) h4
    rw [List.take_take, List.take_take, Nat.min_eq_left (by omega)] at e
    rw [e, List.take_set_of_le (Nat.le_refl _)]
theorem own_cut {T : TypeId} {w : World} {B g n cap k : Nat} {xs : List Value} (h : w.ownsRow B T 1 (.slice (some ⟨g, 0, none⟩) n cap) n xs) (hk : k ≤ n) : w.ownsRow B T 1 (.slice (some ⟨g, 0, none⟩) k cap) k (xs.take k) := by
  have hl := h.1
  rcases h.2 with ⟨h', _⟩ | ⟨g', cap', cur, hv, hb, hh, hc1, hc2, hc3, hc4⟩
  · simp at h'
  · simp only [Value.slice.injEq, Option.some.injEq, Addr.mk.injEq] at hv
    obtain ⟨⟨rfl, -, -⟩, -, rfl⟩ := hv
    refine ⟨by rw [List.length_take, Nat.mul_one, Nat.min_eq_left (by omega)], .inr ⟨g, cap, cur, rfl, hb, hh, by omega, hc2, hc3, ?_⟩⟩
    rw [← hc4, List.take_take, Nat.mul_one, Nat.mul_one, Nat.min_eq_left hk]
/-- the rest is cleared, and cut off -/
theorem ownL_cut {w : World} {B g n cap k : Nat} {L : List (List Int)} {vs : List Value} (h : OwnL w B (.slice (some ⟨g, 0, none⟩) n cap) L) (hk : k ≤ n) : OwnL (w.setCells g k vs) B (.slice (some ⟨g, 0, none⟩) k cap) (L.take k) ∧ Below B w (w.setCells g k vs) := by
  obtain ⟨hn, -, -, hB, hg⟩ := ownL_form h
  obtain ⟨us, hl, ho, hr⟩ := h
  rw [show us.length = n by omega] at ho
  obtain ⟨ys, h1, h2, h3⟩ := own_sets vs k w us ho
  have h4 := own_cut h1 hk
  rw [h2] at h4
  refine ⟨⟨us.take k, by rw [List.length_take, List.length_take, hl], by rw [List.length_take, Nat.min_eq_left (by omega)]; exact h4, fun i hi => ?_⟩, ⟨h3.os, h3.tape, h3.output, h3.size, fun j hj => h3.block j (by omega) (fun e => by have := Option.some.inj e; omega)⟩⟩
  have hi' : i < k := by rw [List.length_take] at hi; omega
  have e1 : (L.take k).getD i [] = L.getD i [] := by rw [List.getD_eq_getElem?_getD, List.getElem?_take, if_pos hi', ← List.getD_eq_getElem?_getD]
  have e2 : (us.take k).getD i undef = us.getD i undef := by rw [List.getD_eq_getElem?_getD, List.getElem?_take, if_pos hi', ← List.getD_eq_getElem?_getD]
  rw [e1, e2]
  have hx := hr i (by omega)
  exact ⟨hx.1, reads_kept hx.2.1 h3 (fun j hj => by have := Option.some.inj hj; subst this; exact hx.2.2 _ rfl), fun j hj => by have := Option.some.inj hj; subst this; exact hx.2.2 _ rfl⟩

/-! plain words -/
/-- the first j of M, each once, as C -/
structure Comp (M : List (List Int)) (j : Nat) (C : List (List Int)) : Prop where
  asc : C.Pairwise fun a b => lessL a b = true
  mem : ∀ x, x ∈ C ↔ x ∈ M.take j
theorem le_last {M : List (List Int)} (hM : M.Pairwise fun x y => lessL y x = false) {j : Nat} (hj : j < M.length) (h1 : 1 ≤ j) {x : List Int} (hx : x ∈ M.take j) : lessL (M.getD (j - 1) []) x = false := by
  obtain ⟨i, hi, rfl⟩ := List.getElem_of_mem hx
  have hi' : i < j := by rw [List.length_take] at hi; omega
  rw [List.getElem_take, List.getD_eq_getElem?_getD, List.getElem?_eq_getElem (by omega)]
  by_cases e : i = j - 1
  · subst e; exact less_irr _
  · exact List.pairwise_iff_getElem.1 hM i (j - 1) (by omega) (by omega) (by omega)
theorem take_mem {M : List (List Int)} {j : Nat} (hj : j < M.length) {x : List Int} : x ∈ M.take (j + 1) ↔ x ∈ M.take j ∨ x = M.getD j [] := by
  rw [List.take_succ_eq_append_getElem hj, List.mem_append, List.getD_eq_getElem?_getD, List.getElem?_eq_getElem hj]; simp
theorem Comp.skip {M C : List (List Int)} {j : Nat} (h : Comp M j C) (hj : j < M.length) (h1 : 1 ≤ j) (he : M.getD j [] = M.getD (j - 1) []) : Comp M (j + 1) C := by
  refine ⟨h.asc, fun x => ?_⟩
  rw [take_mem hj, h.mem]
  refine ⟨.inl, fun hx => hx.elim id fun e => ?_⟩
  rw [e, he]
  have : j - 1 < (M.take j).length := by rw [List.length_take]; omega
  have hm := List.getElem_mem this
  rw [List.getElem_take] at hm
  rw [List.getD_eq_getElem?_getD, List.getElem?_eq_getElem (by omega)]; exact hm
theorem Comp.keep {M C : List (List Int)} {j : Nat} (h : Comp M j C) (hM : M.Pairwise fun x y => lessL y x = false) (hj : j < M.length) (h1 : 1 ≤ j) (he : M.getD j [] ≠ M.getD (j - 1) []) : Comp M (j + 1) (C ++ [M.getD j []]) := by
  refine ⟨?_, fun x => by rw [take_mem hj, List.mem_append, h.mem]; simp⟩
  rw [List.pairwise_append]
  refine ⟨h.asc, by simp, fun x hx y hy => ?_⟩
  have hy' : y = M.getD j [] := by simpa using hy
  subst hy'
  have hlt : lessL (M.getD (j - 1) []) (M.getD j []) = true := by
    cases h3 : lessL (M.getD (j - 1) []) (M.getD j []) with
    | true => rfl
    | false =>
      have h2 : lessL (M.getD j []) (M.getD (j - 1) []) = false := by
        have := List.pairwise_iff_getElem.1 hM (j - 1) j (by omega) hj (by omega)
        rw [List.getD_eq_getElem?_getD, List.getD_eq_getElem?_getD, List.getElem?_eq_getElem hj, List.getElem?_eq_getElem (by omega)]; exact this
      exact absurd (less_tri h2 h3) he
  have h2 := le_last hM hj h1 ((h.mem x).1 hx)
  cases h3 : lessL x (M.getD (j - 1) []) with
  | true => exact less_trans h3 hlt
  | false => rw [less_tri h3 h2]; exact hlt
theorem Comp.one {M : List (List Int)} (h : 1 ≤ M.length) : Comp M 1 (M.take 1) := by
  refine ⟨?_, fun x => Iff.rfl⟩
  cases M with
  | nil => simp at h
  | cons a t => simp
theorem Comp.next {M : List (List Int)} {j : Nat} (h : Comp M j (M.take j)) (hM : M.Pairwise fun x y => lessL y x = false) (hj : j < M.length) (h1 : 1 ≤ j) (he : M.getD j [] ≠ M.getD (j - 1) []) : Comp M (j + 1) (M.take (j + 1)) := by
  have := h.keep hM hj h1 he
  rw [List.take_succ_eq_append_getElem hj]
  rw [List.getD_eq_getElem?_getD (l := M) (i := j), List.getElem?_eq_getElem hj] at this
  exact this
theorem cd_get {M C : List (List Int)} {k i : Nat} (hC : C.length = k) (hi : k ≤ i) : (C ++ M.drop k).getD i [] = M.getD i [] := by
  rw [List.getD_eq_getElem?_getD, List.getElem?_append_right (by omega), List.getElem?_drop, hC, show k + (i - k) = i by omega, ← List.getD_eq_getElem?_getD]
theorem cd_len {M C : List (List Int)} {k : Nat} (hC : C.length = k) (hk : k ≤ M.length) : (C ++ M.drop k).length = M.length := by rw [List.length_append, List.length_drop]; omega
theorem cd_set {M C : List (List Int)} {k : Nat} {l : List Int} (hC : C.length = k) (hk : k < M.length) : (C ++ M.drop k).set k l = (C ++ [l]) ++ M.drop (k + 1) := by
  rw [List.set_append_right _ _ (by omega), hC, Nat.sub_self, List.drop_eq_getElem_cons hk, List.set_cons_zero, List.append_assoc]; rfl

set_option maxHeartbeats 800000 in
set_option maxRecDepth 100000 in
theorem compact_any (w : World) (B g n cap : Nat) (M : List (List Int)) (h : OwnL w B (.slice (some ⟨g, 0, none⟩) n cap) M) (h1 : 1 ≤ n) (hn1 : n ≤ 1000) (hs : ∀ l, l ∈ M → l.length ≤ 1000) (hM : M.Pairwise fun x y => lessL y x = false) :
    Calls Tryz.prog 118 #[.slice (some ⟨g, 0, none⟩) n cap, .func (.func 66) #[] #[]] w fun e w' =>
      ∃ k, e = .returned (.slice (some ⟨g, 0, none⟩) k cap) ∧ ∃ C : List (List Int), C.length = k ∧ 1 ≤ k ∧ k ≤ n ∧ C.Pairwise (fun a b => lessL a b = true) ∧ (∀ x, x ∈ C ↔ x ∈ M) ∧ OwnL w' B (.slice (some ⟨g, 0, none⟩) k cap) C ∧ Below B w w' := by
  obtain ⟨hn, hnc, hcm, hB, hg⟩ := ownL_form h
  have hcm' : cap ≤ 9223372036854775807 := Nat.le_trans hcm (by unfold maxLen; omega)
  have ALL : Hid (Comp M n (M.take n) → (∀ x, x ∈ M ↔ x ∈ M) ∧ M.Pairwise (fun a b => lessL a b = true)) := fun hc => by
    rw [hn, List.take_length] at hc
    exact ⟨fun x => Iff.rfl, hc.asc⟩
  have HO := Lib.hid (show _ ∧ _ from ⟨h, hn⟩)
  have HS := Lib.hid (show _ ∧ _ from ⟨hs, hM⟩)
  have GB := Lib.hid hB
  clear h hn hs hM hcm hB
  by_cases h2 : n < 2
  · have hn' : n = 1 := by omega
    have HC := Lib.hid (ALL.out (by rw [hn']; exact Comp.one (by have := HO.out.2; omega)))
    clear hn'
    go_enter Tryz.func118, Tryz.ntmps118
    go_wp2
    go_ret
    exact ⟨n, rfl, M, HO.out.2.symm, h1, Nat.le_refl _, HC.out.2, fun x => Iff.rfl, HO.out.1, Below.refl _ _⟩
  · go_enter Tryz.func118, Tryz.ntmps118
    go_wp2_with fail
    go_loopw [5] (fun i wr => ∃ k : Nat, 1 ≤ k ∧ k ≤ n ∧ i = .int .i64 k ∧ OwnL wr B (.slice (some ⟨g, 0, none⟩) n cap) M ∧ Below B w wr ∧ Comp M k (M.take k)) (fun i _ => n - (intOf i).toNat)
    case atStart => exact ⟨1, Nat.le_refl _, h1, rfl, HO.out.1, Below.refl _ _, Comp.one (by have := HO.out.2; omega)⟩
    case round =>
      obtain ⟨k, hk1, hk, rfl, q1, q2, q3⟩ := hrel
      have HQ := Lib.hid (show _ ∧ _ ∧ _ from ⟨q1, q2, q3⟩)
      clear q1 q2 q3
      by_cases hkn : k < n
      · obtain ⟨ua, uc, lu, hu1, hu2, hu3, hu4, hu5, -⟩ := ownL_at HQ.out.1 (i := k) (by have := HO.out.2; omega)
        obtain ⟨va, vc, lv, hv1, hv2, hv3, hv4, hv5, -⟩ := ownL_at HQ.out.1 (i := k - 1) (by have := HO.out.2; omega)
        have sm : lu.length ≤ 1000 ∧ lv.length ≤ 1000 := by
          have := HO.out.2
          refine ⟨HS.out.1 _ ?_, HS.out.1 _ ?_⟩
          · rw [← hu1, List.getD_eq_getElem?_getD, List.getElem?_eq_getElem (by omega)]; exact List.getElem_mem _
          · rw [← hv1, List.getD_eq_getElem?_getD, List.getElem?_eq_getElem (by omega)]; exact List.getElem_mem _
        have SM := Lib.hid sm
        have RU := Lib.hid hu3
        have RV := Lib.hid hv3
        have NE := Lib.hid (show _ ∧ _ from ⟨hu4, hv4⟩)
        have EU := Lib.hid (show _ ∧ _ from ⟨hu1, hv1⟩)
        clear sm hu1 hu3 hu4 hu5 hv1 hv3 hv4 hv5
        obtain ⟨nu, hnu⟩ : ∃ nu, nu = lu.length := ⟨_, rfl⟩
        obtain ⟨nv, hnv⟩ : ∃ nv, nv = lv.length := ⟨_, rfl⟩
        rw [← hnu] at hu2 RU
        rw [← hnv] at hv2 RV
        clear hnu hnv
        by_cases hdup : lu = lv
        · have HD : Hid (decide (lu = lv) = true) := decide_eq_true hdup
          have HEQ := Lib.hid hdup
          clear hdup
          have qhu2 : ∀ QQ : Wd (fun W => Hid (∃ q, W = wr.drewN q)), QQ.w.cell? ⟨g, k, none⟩ = some (.slice ua nu uc) := fun QQ => by obtain ⟨q, hq⟩ := QQ.ok; rw [hq]; exact hu2
          have qhv2 : ∀ QQ : Wd (fun W => Hid (∃ q, W = wr.drewN q)), QQ.w.cell? ⟨g, k - 1, none⟩ = some (.slice va nv vc) := fun QQ => by obtain ⟨q, hq⟩ := QQ.ok; rw [hq]; exact hv2
          have hne : Nonempty (Wd (fun W => Hid (∃ q, W = wr.drewN q))) := ⟨⟨wr.drew, Lib.hid ⟨1, rfl⟩⟩⟩
          clear hu2 hv2
          go_wp2_with fail
          refine chain (S := (fun W => Hid (∃ q, W = wr.drewN q))) [([true, true, true, true, true, true, true, true, true, true], 10)] [] (by kernel_rfl) (by kernel_rfl) (by kernel_rfl) (Lib.hid ⟨1, rfl⟩) ?_
          simp only [wpSegs, pickB, List.dropLast_cons_cons, List.dropLast_singleton, List.getLast?_cons_cons, List.getLast?_singleton, List.toList_toArray, List.getElem?_toArray, List.getElem?_cons_succ, List.getElem?_cons_zero, Option.toList_some]
          repeat (go_big_quiet_step (fail))
          refine wpQuiet_nil ?_
          intro K hK
          go_wp2_with fail
          with_reducible refine (equal_any _ _ lu lv _ (RU.out.below ((Below.refl _ _).drew) (Nat.le_refl _)) (RV.out.below ((Below.refl _ _).drew) (Nat.le_refl _)) NE.out.1 NE.out.2 (by have := SM.out; omega) (by have := SM.out; omega)).mono ?_
          rintro er wz ⟨rfl, q, rfl⟩
          rw [HD.out]
          go_wp2_with fail
          refine hK _ _ (Lib.hid ⟨1 + q, rfl⟩) ?_
          clear hK K
          repeat (go_big_quiet_step (fail))
          refine wpQuiet_nil ?_
          clear qhu2 qhv2 hne
          have ST : Hid (∃ C, C.length = k ∧ Comp M (k + 1) C ∧ OwnL (wr.drewN (1 + q)) B (.slice (some ⟨g, 0, none⟩) n cap) (C ++ M.drop k) ∧ Below B w (wr.drewN (1 + q))) :=
            ⟨M.take k, by rw [List.length_take]; have := HO.out.2; omega, HQ.out.2.2.skip (by have := HO.out.2; omega) hk1 (by rw [EU.out.1, EU.out.2]; exact HEQ.out), by rw [List.take_append_drop]; exact HQ.out.1.below (below_drewN (Below.refl _ _) (1 + q)) (Nat.le_refl _), below_drewN HQ.out.2.1 (1 + q)⟩
          clear HQ RU RV NE EU SM HD HEQ
          go_wp2_with fail
          go_loopw [5, 7] (fun i j wr => ∃ (kk k2 : Nat) (C : List (List Int)), i = .int .i64 kk ∧ j = .int .i64 k2 ∧ 1 ≤ k2 ∧ 1 ≤ kk ∧ kk + 1 ≤ k + k2 ∧ k + k2 ≤ n ∧ C.length = kk ∧ Comp M (k + k2) C ∧ OwnL wr B (.slice (some ⟨g, 0, none⟩) n cap) (C ++ M.drop kk) ∧ Below B w wr) (fun _ j _ => n - k - (intOf j).toNat)
          case atStart =>
            obtain ⟨C, z1, z2, z3, z4⟩ := ST.out
            exact ⟨k, 1, C, rfl, rfl, Nat.le_refl _, hk1, Nat.le_refl _, by omega, z1, z2, z3, z4⟩
          case round =>
            clear ST
            obtain ⟨kk, k2, C, rfl, rfl, h21, hkk1, hkk, hk2, z1, z2, z3, z4⟩ := hrel
            have HQ := Lib.hid (show _ ∧ _ ∧ _ ∧ _ from ⟨z1, z2, z3, z4⟩)
            clear z1 z2 z3 z4
            have hlen : (C ++ M.drop kk).length = n := by rw [cd_len HQ.out.1 (by have := HO.out.2; omega)]; exact HO.out.2.symm
            have HLN := Lib.hid hlen
            clear hlen
            by_cases hj : k + k2 < n
            · obtain ⟨xa, xc, lx, hx1, hx2, hx3, hx4, hx5, -⟩ := ownL_at HQ.out.2.2.1 (i := k + k2) (by have := HLN.out; omega)
              obtain ⟨ya, yc, ly, hy1, hy2, hy3, hy4, -, -⟩ := ownL_at HQ.out.2.2.1 (i := k + k2 - 1) (by have := HLN.out; omega)
              obtain ⟨oa, oc, lo, -, ho2, -, -, -, hof⟩ := ownL_at HQ.out.2.2.1 (i := kk) (by have := HLN.out; omega)
              rw [cd_get HQ.out.1 (by omega)] at hx1 hy1
              have sx : lx.length ≤ 1000 ∧ ly.length ≤ 1000 := by
                have := HO.out.2
                refine ⟨HS.out.1 _ ?_, HS.out.1 _ ?_⟩
                · rw [← hx1, List.getD_eq_getElem?_getD, List.getElem?_eq_getElem (by omega)]; exact List.getElem_mem _
                · rw [← hy1, List.getD_eq_getElem?_getD, List.getElem?_eq_getElem (by omega)]; exact List.getElem_mem _
              rw [show k + k2 - 1 = k + (k2 - 1) by omega] at hy2
              have SX := Lib.hid sx
              have RX := Lib.hid hx3
              have RY := Lib.hid hy3
              have NX := Lib.hid (show _ ∧ _ from ⟨hx4, hy4⟩)
              have XB := Lib.hid hx5
              have EX := Lib.hid (show _ ∧ _ from ⟨hx1, hy1⟩)
              clear sx hx1 hx3 hx4 hx5 hy1 hy3 hy4
              obtain ⟨nx, hnx⟩ : ∃ nx, nx = lx.length := ⟨_, rfl⟩
              obtain ⟨ny, hny⟩ : ∃ ny, ny = ly.length := ⟨_, rfl⟩
              obtain ⟨no, hno⟩ : ∃ no, no = lo.length := ⟨_, rfl⟩
              rw [← hnx] at hx2 RX XB
              rw [← hny] at hy2 RY
              rw [← hno] at ho2
              clear hnx hny hno
              by_cases hdup : lx = ly
              · have HD : Hid (decide (lx = ly) = true) := decide_eq_true hdup
                have HEQ := Lib.hid hdup
                clear ho2 hof hdup
                have qhx2 : ∀ QQ : Wd (fun W => Hid (∃ q, W = wr.drewN q)), QQ.w.cell? ⟨g, k + k2, none⟩ = some (.slice xa nx xc) := fun QQ => by obtain ⟨q, hq⟩ := QQ.ok; rw [hq]; exact hx2
                have qhy2 : ∀ QQ : Wd (fun W => Hid (∃ q, W = wr.drewN q)), QQ.w.cell? ⟨g, k + (k2 - 1), none⟩ = some (.slice ya ny yc) := fun QQ => by obtain ⟨q, hq⟩ := QQ.ok; rw [hq]; exact hy2
                have hne : Nonempty (Wd (fun W => Hid (∃ q, W = wr.drewN q))) := ⟨⟨wr.drew, Lib.hid ⟨1, rfl⟩⟩⟩
                clear hx2 hy2
                go_wp2_with fail
                refine chain (S := (fun W => Hid (∃ q, W = wr.drewN q))) [([true, true, true, true, true, true, true, true, true, true], 10)] [false, false, false, false, false, false, false, false, false, false, false, true] (by kernel_rfl) (by kernel_rfl) (by kernel_rfl) (Lib.hid ⟨1, rfl⟩) ?_
                simp only [wpSegs, pickB, List.dropLast_cons_cons, List.dropLast_singleton, List.getLast?_cons_cons, List.getLast?_singleton, List.toList_toArray, List.getElem?_toArray, List.getElem?_cons_succ, List.getElem?_cons_zero, Option.toList_some]
                repeat (go_big_quiet_step (fail))
                refine wpQuiet_nil ?_
                intro K hK
                go_wp2_with fail
                with_reducible refine (equal_any _ _ lx ly _ (RX.out.below ((Below.refl _ _).drew) (Nat.le_refl _)) (RY.out.below ((Below.refl _ _).drew) (Nat.le_refl _)) NX.out.1 NX.out.2 (by have := SX.out; omega) (by have := SX.out; omega)).mono ?_
                rintro er wz ⟨rfl, q, rfl⟩
                rw [HD.out]
                go_wp2_with fail
                refine hK _ _ (Lib.hid ⟨1 + q, rfl⟩) ?_
                clear hK K
                repeat (go_big_quiet_step (fail))
                refine wpQuiet_nil ?_
                clear qhx2 qhy2 hne
                have R2 : Hid (Comp M (k + (k2 + 1)) C ∧ OwnL (wr.drewN (1 + q)) B (.slice (some ⟨g, 0, none⟩) n cap) (C ++ M.drop kk) ∧ Below B w (wr.drewN (1 + q))) :=
                  ⟨HQ.out.2.1.skip (by have := HO.out.2; omega) (by omega) (by rw [EX.out.1, EX.out.2]; exact HEQ.out), HQ.out.2.2.1.below (below_drewN (Below.refl _ _) (1 + q)) (Nat.le_refl _), below_drewN HQ.out.2.2.2 (1 + q)⟩
                go_wp2
                go_roundw
                case rel => exact ⟨kk, k2 + 1, C, rfl, by go_num, by omega, hkk1, by omega, by omega, HQ.out.1, R2.out⟩
                case measure => simp [intOf]; omega
              · have HD : Hid (decide (lx = ly) = false) := decide_eq_false hdup
                have R1 : Hid (Comp M (k + (k2 + 1)) (C ++ [lx])) := by
                  have := HQ.out.2.1.keep HS.out.2 (by have := HO.out.2; omega) (by omega) (by rw [EX.out.1, EX.out.2]; exact hdup)
                  rw [EX.out.1] at this; exact this
                clear hdup
                have qhx2 : ∀ QQ : Wd (fun W => Hid (∃ q, W = wr.drewN q)), QQ.w.cell? ⟨g, k + k2, none⟩ = some (.slice xa nx xc) := fun QQ => by obtain ⟨q, hq⟩ := QQ.ok; rw [hq]; exact hx2
                have qhy2 : ∀ QQ : Wd (fun W => Hid (∃ q, W = wr.drewN q)), QQ.w.cell? ⟨g, k + (k2 - 1), none⟩ = some (.slice ya ny yc) := fun QQ => by obtain ⟨q, hq⟩ := QQ.ok; rw [hq]; exact hy2
                have hne : Nonempty (Wd (fun W => Hid (∃ q, W = wr.drewN q))) := ⟨⟨wr.drew, Lib.hid ⟨1, rfl⟩⟩⟩
                have hxk := hx2
                clear hx2 hy2
                go_wp2_with fail
                refine chain (S := (fun W => Hid (∃ q, W = wr.drewN q))) [([true, true, true, true, true, true, true, true, true, true], 10)] [false, false, false, false, false, false, false, false, false, false, false, true] (by kernel_rfl) (by kernel_rfl) (by kernel_rfl) (Lib.hid ⟨1, rfl⟩) ?_
                simp only [wpSegs, pickB, List.dropLast_cons_cons, List.dropLast_singleton, List.getLast?_cons_cons, List.getLast?_singleton, List.toList_toArray, List.getElem?_toArray, List.getElem?_cons_succ, List.getElem?_cons_zero, Option.toList_some]
                repeat (go_big_quiet_step (fail))
                refine wpQuiet_nil ?_
                intro K hK
                go_wp2_with fail
                with_reducible refine (equal_any _ _ lx ly _ (RX.out.below ((Below.refl _ _).drew) (Nat.le_refl _)) (RY.out.below ((Below.refl _ _).drew) (Nat.le_refl _)) NX.out.1 NX.out.2 (by have := SX.out; omega) (by have := SX.out; omega)).mono ?_
                rintro er wz ⟨rfl, q, rfl⟩
                rw [HD.out]
                go_wp2_with fail
                refine hK _ _ (Lib.hid ⟨1 + q, rfl⟩) ?_
                clear hK K
                repeat (go_big_quiet_step (fail))
                refine wpQuiet_nil ?_
                clear qhx2 qhy2 hne
                have hx9 : (wr.drewN (1 + q)).cell? ⟨g, k + k2, none⟩ = some (.slice xa nx xc) := hxk
                have ho9 : (wr.drewN (1 + q)).cell? ⟨g, kk, none⟩ = some (.slice oa no oc) := ho2
                have hf9 : (wr.drewN (1 + q)).frozen? ⟨g, kk, none⟩ = false := hof
                have R2 : Hid (OwnL ((wr.drewN (1 + q)).setCell ⟨g, kk, none⟩ (.slice xa nx xc)) B (.slice (some ⟨g, 0, none⟩) n cap) ((C ++ [lx]) ++ M.drop (kk + 1)) ∧ Below B w ((wr.drewN (1 + q)).setCell ⟨g, kk, none⟩ (.slice xa nx xc))) := by
                  have y := ownL_set (i := kk) (l := lx) (u := .slice xa nx xc) (HQ.out.2.2.1.below (below_drewN (Below.refl _ _) (1 + q)) (Nat.le_refl _)) (by have := HLN.out; omega) (RX.out.below (below_drewN (Below.refl _ _) (1 + q)) (Nat.le_refl _)) NX.out.1 XB.out
                  rw [cd_set HQ.out.1 (by have := HO.out.2; omega)] at y
                  exact ⟨y, (below_drewN HQ.out.2.2.2 (1 + q)).setCell GB.out _⟩
                have R3 : Hid ((C ++ [lx]).length = kk + 1) := by rw [Hid, List.length_append, HQ.out.1]; rfl
                clear hxk ho2 hof
                go_wp2
                go_roundw
                case rel => exact ⟨kk + 1, k2 + 1, C ++ [lx], by go_num, by go_num, by omega, by omega, by omega, by omega, R3.out, R1.out, R2.out⟩
                case measure => simp [intOf]; omega
            · have hend : k + k2 = n := by omega
              have hcl : ∀ ty, (Builtin.clear_ #[100] ty #[.slice (some ⟨g, kk, none⟩) (n - kk) (cap - kk)]).run Tryz.prog wr = .ok (.tuple #[]) (wr.setCells g kk (List.replicate (n - kk) (.slice none 0 0))) := fun ty =>
                Go.Lib.run_clear_slice wr _ _ ty _ Tryz.underlying100 Tryz.zeroValue29 rfl rfl g kk _ _ (by omega) (fun j hj2 => by
                  obtain ⟨_, _, _, -, hz, -⟩ := ownL_at HQ.out.2.2.1 (i := kk + j) (by have := HLN.out; omega)
                  rw [hz]; rfl) (fun j hj2 => by
                  obtain ⟨_, _, _, -, -, -, -, -, hz⟩ := ownL_at HQ.out.2.2.1 (i := kk + j) (by have := HLN.out; omega)
                  exact hz)
              have RES : Hid (OwnL (wr.setCells g kk (List.replicate (n - kk) (.slice none 0 0))) B (.slice (some ⟨g, 0, none⟩) kk cap) C ∧ Below B w (wr.setCells g kk (List.replicate (n - kk) (.slice none 0 0)))) := by
                obtain ⟨y1, y2⟩ := ownL_cut (k := kk) (vs := List.replicate (n - kk) (.slice none 0 0)) HQ.out.2.2.1 (by omega)
                rw [List.take_append_of_le_length (by have := HQ.out.1; omega), List.take_of_length_le (by have := HQ.out.1; omega)] at y1
                exact ⟨y1, HQ.out.2.2.2.trans y2⟩
              have FIN : Hid (∀ x, x ∈ C ↔ x ∈ M) := fun x => by rw [HQ.out.2.1.mem, hend, HO.out.2, List.take_length]
              go_wp2
              go_ret
              exact ⟨kk, rfl, C, HQ.out.1, hkk1, by omega, HQ.out.2.1.asc, FIN.out, RES.out.1, RES.out.2⟩
        · have HD : Hid (decide (lu = lv) = false) := decide_eq_false hdup
          have R1 : Hid (Comp M (k + 1) (M.take (k + 1))) := HQ.out.2.2.next HS.out.2 (by have := HO.out.2; omega) hk1 (by rw [EU.out.1, EU.out.2]; exact hdup)
          clear hdup
          have qhu2 : ∀ QQ : Wd (fun W => Hid (∃ q, W = wr.drewN q)), QQ.w.cell? ⟨g, k, none⟩ = some (.slice ua nu uc) := fun QQ => by obtain ⟨q, hq⟩ := QQ.ok; rw [hq]; exact hu2
          have qhv2 : ∀ QQ : Wd (fun W => Hid (∃ q, W = wr.drewN q)), QQ.w.cell? ⟨g, k - 1, none⟩ = some (.slice va nv vc) := fun QQ => by obtain ⟨q, hq⟩ := QQ.ok; rw [hq]; exact hv2
          have hne : Nonempty (Wd (fun W => Hid (∃ q, W = wr.drewN q))) := ⟨⟨wr.drew, Lib.hid ⟨1, rfl⟩⟩⟩
          clear hu2 hv2
          go_wp2_with fail
          refine chain (S := (fun W => Hid (∃ q, W = wr.drewN q))) [([true, true, true, true, true, true, true, true, true, true], 10)] [] (by kernel_rfl) (by kernel_rfl) (by kernel_rfl) (Lib.hid ⟨1, rfl⟩) ?_
          simp only [wpSegs, pickB, List.dropLast_cons_cons, List.dropLast_singleton, List.getLast?_cons_cons, List.getLast?_singleton, List.toList_toArray, List.getElem?_toArray, List.getElem?_cons_succ, List.getElem?_cons_zero, Option.toList_some]
          repeat (go_big_quiet_step (fail))
          refine wpQuiet_nil ?_
          intro K hK
          go_wp2_with fail
          with_reducible refine (equal_any _ _ lu lv _ (RU.out.below ((Below.refl _ _).drew) (Nat.le_refl _)) (RV.out.below ((Below.refl _ _).drew) (Nat.le_refl _)) NE.out.1 NE.out.2 (by have := SM.out; omega) (by have := SM.out; omega)).mono ?_
          rintro er wz ⟨rfl, q, rfl⟩
          rw [HD.out]
          go_wp2_with fail
          refine hK _ _ (Lib.hid ⟨1 + q, rfl⟩) ?_
          clear hK K
          repeat (go_big_quiet_step (fail))
          refine wpQuiet_nil ?_
          clear qhu2 qhv2 hne
          have R2 : Hid (OwnL (wr.drewN (1 + q)) B (.slice (some ⟨g, 0, none⟩) n cap) M ∧ Below B w (wr.drewN (1 + q))) := ⟨HQ.out.1.below (below_drewN (Below.refl _ _) (1 + q)) (Nat.le_refl _), below_drewN HQ.out.2.1 (1 + q)⟩
          go_wp2
          go_roundw
          case rel => exact ⟨k + 1, by omega, by omega, by go_num, R2.out.1, R2.out.2, R1.out⟩
          case measure => simp [intOf]; omega
      · obtain rfl : n = k := by omega
        have HC := Lib.hid (ALL.out HQ.out.2.2)
        go_wp2
        go_ret
        exact ⟨n, rfl, M, HO.out.2.symm, h1, Nat.le_refl _, HC.out.2, fun x => Iff.rfl, HQ.out.1, HQ.out.2.1⟩
end Go.Proofs.YtpcnoiigbmiejaaGreatDoor.cmp

/- colouredOf of the program: the colours by descriptions. -/
namespace Go.Proofs.YtpcnoiigbmiejaaGreatDoor.coloured
set_option linter.unusedVariables false
set_option linter.unusedSimpArgs false
open Go.ChangeShapes Go.WideShapes Go.ChangeAt Go.RowKit
open Go.Proofs.YtpcnoiigbmiejaaGreatDoor.lib Go.Proofs.YtpcnoiigbmiejaaGreatDoor.st Go.Proofs.YtpcnoiigbmiejaaGreatDoor.base Go.Proofs.YtpcnoiigbmiejaaGreatDoor.col Go.Proofs.YtpcnoiigbmiejaaGreatDoor.colp Go.Proofs.YtpcnoiigbmiejaaGreatDoor.sll Go.Proofs.YtpcnoiigbmiejaaGreatDoor.less Go.Proofs.YtpcnoiigbmiejaaGreatDoor.cmp

theorem emptyRow (T : TypeId) (w : World) (B H : Nat) (hH : w.heap.size = H) (hB : B ≤ H) : OwnI T (w.alloc (.cells #[] T)) B (.slice (some ⟨H, 0, none⟩) 0 0) [] := by
  subst hH
  exact World.ownsRow_made w #[] 0 hB (by decide) rfl
theorem nums_num {L C : List (List Int)} (h : ∀ x, x ∈ C ↔ x ∈ L) {i : Nat} (hi : i < L.length) : (nums L).take (i + 1) = (nums L).take i ++ [((num C (L.getD i []) : Nat) : Int)] := by
  rw [List.take_succ_eq_append_getElem (by rw [nums_len]; exact hi)]
  congr 2
  have := nums_get (L := L) hi
  rw [List.getD_eq_getElem?_getD, List.getElem?_eq_getElem (by rw [nums_len]; exact hi)] at this
  rw [num_congr h, List.getD_eq_getElem?_getD, List.getElem?_eq_getElem hi]
  exact this

set_option maxHeartbeats 3200000 in
set_option maxRecDepth 100000 in
theorem colouredOf_any (w : World) (B0 g0 n c0 : Nat) (L : List (List Int)) (h : OwnL w B0 (.slice (some ⟨g0, 0, none⟩) n c0) L) (h1 : 1 ≤ n) (hn1 : n ≤ 100) (hs : ∀ l, l ∈ L → l.length ≤ 1000) :
    Calls Tryz.prog 91 #[.slice (some ⟨g0, 0, none⟩) n c0] w fun e w' => ∃ u, e = .returned u ∧ OwnI 3 w' w.heap.size u (nums L) ∧ Below w.heap.size w w' := by
  obtain ⟨hn, -, -, -, hg0⟩ := ownL_form h
  obtain ⟨us, hul, hown0, hr⟩ := OwnL.row h
  have hun : us.length = n := by omega
  have HO := Lib.hid (show _ ∧ _ ∧ _ ∧ _ from ⟨h, hn, hs, hr⟩)
  have HU := Lib.hid hun
  have OW := Lib.hid (show w.ownsRow B0 29 1 (.slice (some ⟨g0, 0, none⟩) n c0) n us by rw [← hun]; exact (by rw [hun] at hown0 ⊢; exact hown0))
  obtain ⟨i0, hi, hz0, hz1, hz2⟩ := info_parts sll.infoSl
  obtain ⟨H, hH⟩ : ∃ H, H = w.heap.size := ⟨_, rfl⟩
  have HH := Lib.hid hH
  have ROW0 : Hid ((w.alloc (.cells #[] 29)).ownsRow H 29 1 (.slice (some ⟨w.heap.size, 0, none⟩) 0 0) 0 []) := by rw [hH]; exact World.ownsRow_made w #[] 0 (Nat.le_refl _) (Nat.zero_le _) rfl
  have A0 : Hid (Below w.heap.size w (w.alloc (.cells #[] 29))) := (Below.refl _ _).alloc (Nat.le_refl _) _
  have NEW : Hid ((∀ j u, us[j]? = some u → (w.alloc (.cells #[] 29)).cell? ((⟨g0, 0, none⟩ : Addr).add j) = some u) ∧ ∀ u ∈ us, u.oneCell' = true) := by
    refine ⟨fun j u hj => ?_, fun u hu => ?_⟩
    · have hc := OW.out.cells (g := g0) rfl j u hj
      have hb : ((⟨g0, 0, none⟩ : Addr).add j).block = g0 := by simp only [Addr.add]; split <;> rfl
      exact (A0.out.cell (by rw [hb]; exact hg0)).trans hc
    · obtain ⟨i, hi, rfl⟩ := List.getElem_of_mem hu
      have := (HO.out.2.2.2 i (by have := HO.out.2.1; have := HU.out; omega)).2.1
      rw [List.getD_eq_getElem?_getD, List.getElem?_eq_getElem hi] at this
      exact sl_one this
  clear h hn hs hr hul hown0 hH hun
  go_enter Tryz.func91, Tryz.ntmps91
  go_wp2_with (at_builtin; refine wpList_append_own (w.alloc (.cells #[] 29)) rfl (.tmp 9) (.tmp 10) 100 rfl H 29 i0 (.slice none 0 0) 1 24 Tryz.underlying100 hi hz0 hz1 hz2 rfl (by decide) _ 0 [] rfl ROW0.out ⟨g0, 0, none⟩ n c0 us rfl (by have := HU.out; omega) NEW.out.1 NEW.out.2 (by unfold maxLen; omega) (by omega) (by rw [HH.out]; simp) ?_)
  intro v1 w1 hown1 hgr1 _
  have hb1 : Below H w w1 := by
    have h1 := A0.out
    rw [HH.out]
    exact ⟨hgr1.os.trans h1.os, hgr1.tape.trans h1.tape, hgr1.output.trans h1.output, Nat.le_trans h1.size hgr1.size, fun k hk => (hgr1.block k (Nat.lt_of_lt_of_le hk h1.size) (fun e => by have : k = w.heap.size := Option.some.inj e; omega)).trans (h1.block k hk)⟩
  have ROW1 : OwnL w1 H v1 L := by
    refine ⟨us, by have := HO.out.2.1; have := HU.out; omega, ?_, fun i hi => ?_⟩
    · rw [show us.length = n from HU.out]
      exact hown1
    · obtain ⟨x1, x2, -⟩ := HO.out.2.2.2 i hi
      refine ⟨x1, x2.below hb1 (by rw [HH.out]; exact Nat.le_refl _), fun k hk hk2 => ?_⟩
      have := reads_block x2 hk2 x1
      have := (hown1.lt k hk).1
      have := HH.out
      omega
  obtain ⟨g, cap, hv1, hg1⟩ : ∃ g cap, v1 = .slice (some ⟨g, 0, none⟩) n cap ∧ H ≤ g := by
    rcases ROW1.len with ⟨-, h0⟩ | ⟨g, cap, hv, hg, -⟩
    · have := HO.out.2.1; rw [h0] at this; simp at this; omega
    · exact ⟨g, cap, by rw [hv, ← HO.out.2.1], hg⟩
  subst hv1
  have R1 := Lib.hid (show _ ∧ _ from ⟨ROW1, hb1⟩)
  clear ROW1 hb1 hown1 hgr1 hi hz0 hz1 hz2 A0 NEW ROW0 hg1
  go_wp2_with fail
  refine (sortF_any _ H g n cap L R1.out.1 HO.out.2.1.symm h1 (by omega) HO.out.2.2.1).mono ?_
  rintro e w2 ⟨rfl, M, hMp, hMs, hMo, hb2⟩
  have hMl : M.length = n := by rw [hMp.length_eq]; exact HO.out.2.1.symm
  have R2 := Lib.hid (show _ ∧ _ ∧ _ ∧ _ ∧ _ from ⟨hMo, hMs, (fun l hl => HO.out.2.2.1 l (hMp.mem_iff.1 hl) : ∀ l, l ∈ M → l.length ≤ 1000), (fun x => hMp.mem_iff : ∀ x, x ∈ M ↔ x ∈ L), R1.out.2.trans hb2⟩)
  clear hMp hMs hMo hb2 hMl R1
  go_wp2_with fail
  refine (compact_any _ H g n cap M R2.out.1 h1 (by omega) R2.out.2.2.1 R2.out.2.1).mono ?_
  rintro e w3 ⟨k, rfl, C, hCl, hk1, hkn, hCs, hCm, hCo, hb3⟩
  have R3 := Lib.hid (show _ ∧ _ ∧ _ ∧ _ ∧ _ ∧ _ from ⟨hCo, hCs, hCl, (fun l hl => R2.out.2.2.1 l ((hCm l).1 hl) : ∀ l, l ∈ C → l.length ≤ 1000), (fun x => (hCm x).trans (R2.out.2.2.2.1 x) : ∀ x, x ∈ C ↔ x ∈ L), R2.out.2.2.2.2.trans hb3⟩)
  clear hCl hCs hCm hCo hb3 R2
  obtain ⟨HB, hHB⟩ : ∃ HB, HB = w3.heap.size := ⟨_, rfl⟩
  have HHB := Lib.hid hHB
  have START : Hid (OwnI 3 (w3.alloc (.cells #[] 3)) HB (.slice (some ⟨HB, 0, none⟩) 0 0) ((nums L).take 0) ∧ Below HB w3 (w3.alloc (.cells #[] 3))) := by
    rw [hHB]; exact ⟨emptyRow _ _ _ _ rfl (Nat.le_refl _), (Below.refl _ _).alloc (Nat.le_refl _) _⟩
  have hHle : H ≤ HB := by have := R3.out.2.2.2.2.2.size; have := HH.out; omega
  clear hHB
  go_wp2_with fail
  rw [← HHB.out]
  go_loopw [4, 19] (fun u i wr => ∃ j : Nat, j ≤ n ∧ i = .int .i64 j ∧ OwnI 3 wr HB u ((nums L).take j) ∧ Below HB w3 wr) (fun _ i _ => n - (intOf i).toNat)
  case atStart => exact ⟨0, Nat.zero_le _, rfl, START.out⟩
  case round =>
    clear START
    obtain ⟨j, hj, rfl, q1, q2⟩ := hrel
    have HQ := Lib.hid (show _ ∧ _ from ⟨q1, q2⟩)
    clear q1 q2
    by_cases hjn : j < n
    · have AW : Hid (Below H w wr) := R3.out.2.2.2.2.2.trans (HQ.out.2.mono hHle)
      have OC : Hid (OwnL wr H (.slice (some ⟨g, 0, none⟩) k cap) C) := R3.out.1.below HQ.out.2 (by rw [HHB.out]; exact Nat.le_refl _)
      obtain ⟨xa, xc, lx, hx1, hx2, hx3, hx4, hx5, -⟩ := ownL_at HO.out.1 (i := j) (by have := HO.out.2.1; omega)
      have hcx : wr.cell? ⟨g0, j, none⟩ = some (.slice xa lx.length xc) := by rw [AW.out.cell (p := ⟨g0, j, none⟩) (by rw [HH.out]; exact hg0)]; exact hx2
      have RX : Hid (Reads wr (.slice xa lx.length xc) lx) := hx3.below AW.out (by rw [HH.out]; exact Nat.le_refl _)
      have hxg : (Value.slice xa lx.length xc).ownBlock ≠ some g := fun e => by
        have a1 := reads_block hx3 e hx4
        have a2 := (ownL_form R3.out.1).2.2.2.1
        have := HH.out; omega
      have hxl : lx.length ≤ 1000 := HO.out.2.2.1 _ (by rw [← hx1, List.getD_eq_getElem?_getD, List.getElem?_eq_getElem (by have := HO.out.2.1; omega)]; exact List.getElem_mem _)
      have HN : Hid ((nums L).take (j + 1) = (nums L).take j ++ [((num C lx : Nat) : Int)]) := by rw [Hid, ← hx1]; exact nums_num R3.out.2.2.2.2.1 (by have := HO.out.2.1; omega)
      have HX1 := Lib.hid hxg
      have HX2 := Lib.hid hxl
      obtain ⟨OL, hOL⟩ : ∃ OL, OL = (nums L).take j := ⟨_, rfl⟩
      have HL : Hid (OL.length ≤ 100) := by rw [Hid, hOL, List.length_take]; omega
      rw [← hOL] at HN HQ
      clear hOL
      obtain ⟨nx, hnx⟩ : ∃ nx, nx = lx.length := ⟨_, rfl⟩
      rw [← hnx] at hcx RX HX1
      clear hx1 hx2 hx3 hx4 hx5 hxg hxl hnx
      go_wp2_with fail
      with_reducible refine (search_any _ H g k cap C _ lx OC.out R3.out.2.2.1 hk1 (by omega) R3.out.2.2.2.1 R3.out.2.1 RX.out HX1.out HX2.out).mono ?_
      rintro e w4 ⟨b4, rfl, hb4⟩
      have Q4 : Hid (OwnI 3 w4 HB u4 OL ∧ Below HB w3 w4) := ⟨HQ.out.1.below hb4 (Nat.le_refl _), HQ.out.2.trans (hb4.mono (by have := HQ.out.2.size; have := HHB.out; omega))⟩
      have hsz : HB ≤ w4.heap.size := by have := Q4.out.2.size; have := HHB.out; omega
      clear hb4 hcx
      go_wp2_with (at_builtin; refine wpList_app1 w4 rfl (.tmp 29) (.tmp 31) 29 rfl HB 3 (.int .i64 0) 8 Tryz.underlying29 sll.infoInt rfl (by decide) _ _ _ (.int .i64 (num C lx : Nat)) rfl Q4.out.1 w4.heap.size rfl rfl rfl (by have := HL.out; omega) hsz ?_)
      intro g' cap' w9 hown9 hgr
      have R : Hid (OwnI 3 w9 HB (.slice (some ⟨g', 0, none⟩) (OL.length + 1) cap') ((nums L).take (j + 1)) ∧ Below HB w3 w9) := by
        refine ⟨?_, Q4.out.2.trans (hgr.below Q4.out.1 hsz)⟩
        rw [HN.out]; unfold OwnI; rw [List.length_append, ivs_append]; exact hown9
      clear hown9 hgr hsz
      go_wp2
      go_roundw
      case rel => exact ⟨j + 1, by omega, by go_num, R.out⟩
      case measure => simp [intOf]; omega
    · obtain rfl : n = j := by omega
      have HF : Hid ((nums L).take n = nums L) := List.take_of_length_le (by rw [nums_len]; have := HO.out.2.1; omega)
      have R : Hid (OwnI 3 wr w.heap.size u4 (nums L) ∧ Below w.heap.size w wr) := by
        have e := HH.out
        refine ⟨by rw [← HF.out]; exact HQ.out.1.mono (by omega), ?_⟩
        rw [← e]
        exact R3.out.2.2.2.2.2.trans (HQ.out.2.mono hHle)
      go_wp2
      go_ret
      exact ⟨_, rfl, R.out⟩
end Go.Proofs.YtpcnoiigbmiejaaGreatDoor.coloured

/- The descriptions of several structures, one behind the other: plain words for the program's coloursAfter. -/
namespace Go.Proofs.YtpcnoiigbmiejaaGreatDoor.cola
set_option linter.unusedVariables false
set_option linter.unusedSimpArgs false
open Go.Proofs.YtpcnoiigbmiejaaGreatDoor.lib Go.Proofs.YtpcnoiigbmiejaaGreatDoor.st Go.Proofs.YtpcnoiigbmiejaaGreatDoor.base Go.Proofs.YtpcnoiigbmiejaaGreatDoor.col Go.Proofs.YtpcnoiigbmiejaaGreatDoor.colp

theorem firsts_take : ∀ (As : List St) (i : Nat) (a : St), As[i]? = some a → firsts (As.take (i + 1)) = firsts (As.take i) ++ (List.range a.n).map (d0 a)
  | [], i, a, h => by simp at h
  | b :: As, 0, a, h => by
    simp only [List.getElem?_cons_zero, Option.some.injEq] at h
    subst h
    simp [firsts]
  | b :: As, i + 1, a, h => by
    rw [List.getElem?_cons_succ] at h
    rw [List.take_succ_cons, List.take_succ_cons, firsts, firsts, firsts_take As i a h, List.append_assoc]
theorem total_take : ∀ (As : List St) (i : Nat) (a : St), As[i]? = some a → total (As.take (i + 1)) = total (As.take i) + a.n
  | [], i, a, h => by simp at h
  | b :: As, 0, a, h => by
    simp only [List.getElem?_cons_zero, Option.some.injEq] at h
    subst h
    simp [total]
  | b :: As, i + 1, a, h => by
    rw [List.getElem?_cons_succ] at h
    rw [List.take_succ_cons, List.take_succ_cons, total, total, total_take As i a h, Nat.add_assoc]
theorem nexts_take : ∀ (As : List St) (c : List Int) (i : Nat) (a : St), As[i]? = some a → nexts (As.take (i + 1)) c = nexts (As.take i) c ++ (List.range a.n).map (desc a ((c.drop (total (As.take i))).take a.n))
  | [], c, i, a, h => by simp at h
  | b :: As, c, 0, a, h => by
    simp only [List.getElem?_cons_zero, Option.some.injEq] at h
    subst h
    simp [nexts, total]
  | b :: As, c, i + 1, a, h => by
    rw [List.getElem?_cons_succ] at h
    rw [List.take_succ_cons, List.take_succ_cons, nexts, nexts, nexts_take As (c.drop b.n) i a h, List.append_assoc, total, List.drop_drop]
end Go.Proofs.YtpcnoiigbmiejaaGreatDoor.cola

/- coloursAfter of the program: the colours of several structures after some rounds. -/
namespace Go.Proofs.YtpcnoiigbmiejaaGreatDoor.colsa
set_option linter.unusedVariables false
set_option linter.unusedSimpArgs false
open Go.ChangeShapes Go.WideShapes Go.ChangeAt Go.RowKit
open Go.Proofs.YtpcnoiigbmiejaaGreatDoor.lib Go.Proofs.YtpcnoiigbmiejaaGreatDoor.st Go.Proofs.YtpcnoiigbmiejaaGreatDoor.base Go.Proofs.YtpcnoiigbmiejaaGreatDoor.col Go.Proofs.YtpcnoiigbmiejaaGreatDoor.colp Go.Proofs.YtpcnoiigbmiejaaGreatDoor.sll Go.Proofs.YtpcnoiigbmiejaaGreatDoor.descr Go.Proofs.YtpcnoiigbmiejaaGreatDoor.cmp Go.Proofs.YtpcnoiigbmiejaaGreatDoor.flow Go.Proofs.YtpcnoiigbmiejaaGreatDoor.chain Go.Proofs.YtpcnoiigbmiejaaGreatDoor.coloured Go.Proofs.YtpcnoiigbmiejaaGreatDoor.desci Go.Proofs.YtpcnoiigbmiejaaGreatDoor.cola

/-- a structure whose texts have their lengths -/
def Fit (a : St) : Prop := 1 ≤ a.n ∧ a.n ≤ 8 ∧ a.s.size = a.n ∧ a.r.size = a.n * a.n
/-- the structures of a slice -/
structure Strs (w : World) (g : Nat) (As : List St) : Prop where
  lt : g < w.heap.size
  c : ∀ i a, As[i]? = some a → w.cell? ⟨g, i * 3, none⟩ = some (.int .i64 a.n) ∧ w.cell? ⟨g, i * 3 + 1, none⟩ = some (.string a.s) ∧ w.cell? ⟨g, i * 3 + 2, none⟩ = some (.string a.r)
  fit : ∀ a, a ∈ As → Fit a
/-- the first descriptions of the first i structures and of y elements of the next one -/
def fTo (As : List St) (i : Nat) (a : St) (y : Nat) : List (List Int) := firsts (As.take i) ++ (List.range y).map (d0 a)
theorem fTo_zero (As : List St) (i : Nat) (a : St) : fTo As i a 0 = firsts (As.take i) := by simp [fTo]
theorem fTo_succ (As : List St) (i : Nat) (a : St) (y : Nat) : fTo As i a (y + 1) = fTo As i a y ++ [d0 a y] := by simp [fTo, List.range_succ]
theorem fTo_full {As : List St} {i : Nat} {a : St} (h : As[i]? = some a) : fTo As i a a.n = firsts (As.take (i + 1)) := by rw [firsts_take As i a h]; rfl
theorem total_app : ∀ (A B : List St), total (A ++ B) = total A + total B
  | [], B => by simp [total]
  | a :: A, B => by rw [List.cons_append, total, total, total_app A B]; omega
theorem total_le : ∀ (A : List St), (∀ a, a ∈ A → Fit a) → total A ≤ 8 * A.length
  | [], _ => Nat.le_refl _
  | a :: A, h => by
    have h1 := (h a List.mem_cons_self).2.1
    have h2 := total_le A fun x hx => h x (List.mem_cons_of_mem _ hx)
    rw [total, List.length_cons]; omega
theorem total_pos : ∀ (A : List St), 1 ≤ A.length → (∀ a, a ∈ A → Fit a) → 1 ≤ total A
  | [], h, _ => by simp at h
  | a :: A, _, h => by
    have h1 := (h a List.mem_cons_self).1
    rw [total]; omega
theorem total_part (As : List St) (k : Nat) : total (As.take k) ≤ total As := by
  have h := total_app (As.take k) (As.drop k)
  rw [List.take_append_drop] at h
  omega
theorem firsts_rows : ∀ (As : List St) (l : List Int), l ∈ firsts As → l.length ≤ 1000
  | [], l, h => by simp [firsts] at h
  | a :: As, l, h => by
    rcases List.mem_append.1 h with h | h
    · obtain ⟨x, _, rfl⟩ := List.mem_map.1 h; simp [d0]
    · exact firsts_rows As l h
theorem nexts_rows : ∀ (As : List St) (c : List Int), (∀ a, a ∈ As → Fit a) → ∀ l, l ∈ nexts As c → l.length ≤ 1000
  | [], c, _, l, h => by simp [nexts] at h
  | a :: As, c, hf, l, h => by
    rcases List.mem_append.1 h with h | h
    · obtain ⟨x, _, rfl⟩ := List.mem_map.1 h
      have h1 := (hf a List.mem_cons_self).2.1
      have := descTo_len a (c.take a.n) x 4
      unfold desc; omega
    · exact nexts_rows As _ (fun x hx => hf x (List.mem_cons_of_mem _ hx)) l h
theorem desc_ne (a : St) (c : List Int) (x : Nat) : desc a c x ≠ [] := by unfold desc descTo; simp
/-- the next descriptions of the first i structures and of y elements of the next one -/
def nTo (As : List St) (c : List Int) (i : Nat) (a : St) (y : Nat) : List (List Int) := nexts (As.take i) c ++ (List.range y).map (desc a ((c.drop (total (As.take i))).take a.n))
theorem nTo_zero (As : List St) (c : List Int) (i : Nat) (a : St) : nTo As c i a 0 = nexts (As.take i) c := by simp [nTo]
theorem nTo_succ (As : List St) (c : List Int) (i : Nat) (a : St) (y : Nat) : nTo As c i a (y + 1) = nTo As c i a y ++ [desc a ((c.drop (total (As.take i))).take a.n) y] := by simp [nTo, List.range_succ]
theorem nTo_full {As : List St} {c : List Int} {i : Nat} {a : St} (h : As[i]? = some a) : nTo As c i a a.n = nexts (As.take (i + 1)) c := by rw [nexts_take As c i a h]; rfl
theorem nTo_len (As : List St) (c : List Int) (i : Nat) (a : St) (y : Nat) : (nTo As c i a y).length = total (As.take i) + y := by simp [nTo, nexts_len]
/-- a structure's block is kept where a list of lists grows -/
theorem box_grew {T E : TypeId} {w w' : World} {H : Nat} {n : Int} {s r : ByteArray} {B : Nat} {v v' : Value} {k : Nat} {xs : List Value} (hT : T ≠ E) (hb : Box T w H n s r) (ho : w.ownsRow B E 1 v k xs) (hg : Grew w w' v v') : Box T w' H n s r := by
  have hne : v.ownBlock ≠ some H := by
    intro e
    rcases ho.2 with ⟨h, _⟩ | ⟨g, cap, cur, hv, _, hh, _⟩
    · rw [h] at e; simp [Value.ownBlock] at e
    · rw [hv] at e
      have : g = H := Option.some.inj e
      subst this
      unfold Box at hb
      rw [hb] at hh
      simp only [Option.some.injEq, Obj.cells.injEq] at hh
      exact hT hh.2.1
  unfold Box at *
  rw [hg.grown.block H (Array.getElem?_eq_some_iff.1 hb).1 (fun e => hne e.symm)]
  exact hb
/-- a part of a list -/
theorem sub_reads {T : TypeId} {w : World} {B g n cap t m : Nat} {l : List Int} (h : OwnI T w B (.slice (some ⟨g, 0, none⟩) n cap) l) (ht : t + m ≤ n) : Reads w (.slice (some ⟨g, t, none⟩) m (cap - t)) ((l.drop t).take m) := by
  have hn := h.len
  have hl : ((l.drop t).take m).length = m := by rw [List.length_take, List.length_drop]; omega
  refine ⟨some ⟨g, t, none⟩, cap - t, by rw [hl], .inr ⟨g, t, rfl, fun i hi => ?_⟩, fun h => by cases h⟩
  rw [hl] at hi
  rw [h.cell (t + i) (by omega)]
  simp [List.getD_eq_getElem?_getD, List.getElem?_take, List.getElem?_drop, hi]
theorem own_cap {T : TypeId} {w : World} {B g n cap : Nat} {l : List Int} (h : OwnI T w B (.slice (some ⟨g, 0, none⟩) n cap) l) : n ≤ cap ∧ cap ≤ 9223372036854775807 := by
  have hn := h.len
  rcases h.2 with ⟨h', _⟩ | ⟨g', cap', cur, h', hb, hh, hnc, hcm, _⟩
  · simp at h'
  · simp only [Value.slice.injEq] at h'
    obtain ⟨_, hx, rfl⟩ := h'
    exact ⟨by omega, hcm⟩
theorem own_low {T : TypeId} {w w' : World} {B C g n cap : Nat} {l : List Int} (h : OwnI T w B (.slice (some ⟨g, 0, none⟩) n cap) l) (hb : Below C w w') (hg : g < C) : OwnI T w' B (.slice (some ⟨g, 0, none⟩) n cap) l := by
  refine ⟨h.1, ?_⟩
  rcases h.2 with hn | ⟨g', cap', cur, hv, hg', hh, r⟩
  · exact .inl hn
  · have e : g = g' := by simp only [Value.slice.injEq, Option.some.injEq, Addr.mk.injEq] at hv; exact hv.1.1
    subst e
    exact .inr ⟨g, cap', cur, hv, hg', by rw [hb.block g hg]; exact hh, r⟩
theorem fTo_len (As : List St) (i : Nat) (a : St) (y : Nat) : (fTo As i a y).length = total (As.take i) + y := by simp [fTo, firsts_len]

set_option maxHeartbeats 6400000 in
set_option maxRecDepth 100000 in
theorem after_any (w : World) (g L R : Nat) (As : List St) (h : Strs w g As) (hL : As.length = L) (hL1 : 1 ≤ L) (hL2 : L ≤ 2) (hR : R ≤ 100) :
    Calls Tryz.prog 47 #[.slice (some ⟨g, 0, none⟩) L L, .int .i64 R] w fun e w' => ∃ u, e = .returned u ∧ OwnI 3 w' w.heap.size u (cols As R) ∧ Below w.heap.size w w' := by
  obtain ⟨HB, hHB⟩ : ∃ HB, HB = w.heap.size := ⟨_, rfl⟩
  have HHB := Lib.hid hHB
  have HS := Lib.hid (show _ ∧ _ from ⟨h, hL⟩)
  have ST : Hid (OwnL (w.alloc (.cells #[] 29)) HB (.slice (some ⟨w.heap.size, 0, none⟩) 0 0) (firsts (As.take 0)) ∧ Below HB w (w.alloc (.cells #[] 29))) := by
    rw [hHB]; exact ⟨OwnL.empty _ _ _ rfl (Nat.le_refl _), (Below.refl _ _).alloc (Nat.le_refl _) _⟩
  have hg : g < HB := by rw [hHB]; exact h.lt
  have LT : Hid (∀ k, total (As.take k) ≤ 16) := fun k => by
    have h1 := total_le As h.fit
    have h2 := total_part As k
    omega
  have TP : Hid (1 ≤ total As ∧ total As ≤ 16) := by
    refine ⟨total_pos As (by omega) h.fit, ?_⟩
    have h1 := total_le As h.fit
    omega
  clear h hL hHB
  go_enter Tryz.func47, Tryz.ntmps47
  go_wp2_with fail
  go_loopw [5, 18] (fun u i wr => ∃ k : Nat, k ≤ L ∧ i = .int .i64 k ∧ OwnL wr HB u (firsts (As.take k)) ∧ Below HB w wr) (fun _ i _ => L - (intOf i).toNat)
  case atStart => exact ⟨0, Nat.zero_le _, rfl, ST.out⟩
  case round =>
    clear ST
    obtain ⟨k, hk, rfl, q1, q2⟩ := hrel
    have HQ := Lib.hid (show _ ∧ _ from ⟨q1, q2⟩)
    clear q1 q2
    by_cases hkL : k < L
    · obtain ⟨a, ha⟩ : ∃ a, As[k]? = some a := ⟨_, List.getElem?_eq_getElem (by have := HS.out.2; omega)⟩
      obtain ⟨c0, c1, c2⟩ := HS.out.1.c k a ha
      have d0 : wr.cell? ⟨g, k * 3, none⟩ = some (.int .i64 a.n) := by rw [HQ.out.2.cell (p := ⟨g, k * 3, none⟩) hg]; exact c0
      have d1 : wr.cell? ⟨g, k * 3 + 1, none⟩ = some (.string a.s) := by rw [HQ.out.2.cell (p := ⟨g, k * 3 + 1, none⟩) hg]; exact c1
      have d2 : wr.cell? ⟨g, k * 3 + 2, none⟩ = some (.string a.r) := by rw [HQ.out.2.cell (p := ⟨g, k * 3 + 2, none⟩) hg]; exact c2
      have HA := Lib.hid ha
      clear c0 c1 c2 ha
      obtain ⟨HX, hHX⟩ : ∃ HX, HX = wr.heap.size := ⟨_, rfl⟩
      have hBw : HB ≤ wr.heap.size := by have := HQ.out.2.size; have := HHB.out; omega
      have FT : Hid (Fit a) := HS.out.1.fit a (List.mem_of_getElem? HA.out)
      have ST2 : Hid (OwnL (wr.alloc (.cells #[.int .i64 a.n, .string a.s, .string a.r] 24)) HB u5 (fTo As k a 0) ∧ Below HB w (wr.alloc (.cells #[.int .i64 a.n, .string a.s, .string a.r] 24)) ∧ Box 24 (wr.alloc (.cells #[.int .i64 a.n, .string a.s, .string a.r] 24)) HX a.n a.s a.r) := by
        have AL : Below wr.heap.size wr (wr.alloc (.cells #[.int .i64 a.n, .string a.s, .string a.r] 24)) := (Below.refl _ _).alloc (Nat.le_refl _) _
        refine ⟨by rw [fTo_zero]; exact HQ.out.1.below AL (Nat.le_refl _), HQ.out.2.trans (AL.mono hBw), ?_⟩
        rw [hHX]; exact Box.new _ _ _ rfl _ _ _
      have HXX := Lib.hid hHX
      have hXB : HB ≤ HX := by omega
      clear HQ
      go_wp2_with fail
      rw [← HXX.out]
      clear d0 d1 d2 hHX hBw
      go_loopw [5, 24] (fun u i wq => ∃ y : Nat, y ≤ a.n ∧ i = .int .i64 y ∧ OwnL wq HB u (fTo As k a y) ∧ Below HB w wq ∧ Box 24 wq HX a.n a.s a.r) (fun _ i _ => a.n - (intOf i).toNat)
      case atStart => exact ⟨0, Nat.zero_le _, rfl, ST2.out⟩
      case round =>
        clear ST2
        obtain ⟨y, hy, rfl, q1, q2, q3⟩ := hrel
        have HQ := Lib.hid (show _ ∧ _ ∧ _ from ⟨q1, q2, q3⟩)
        clear q1 q2 q3
        have ha8 : a.n ≤ 8 := FT.out.2.1
        by_cases hyn : y < a.n
        · obtain ⟨a0, a1, a2⟩ := HQ.out.2.2.c
          have hsy : y < a.s.size := by have := FT.out.2.2.1; omega
          cases e1 : bitAt a.s y with
          | false =>
            cases e2 : bitAt a.r (y * a.n + y) with
            | false =>
              have HD : Hid (d0 a y = [(0 : Int)]) := by
                unfold Hid d0 n01
                simp only [e1, e2]; rfl
              have HE := Lib.hid (show _ ∧ _ from ⟨e1, e2⟩)
              clear e1 e2
              go_wp2_with fail
              refine (inSet_any a.n a.s a.r y _ hsy (by have := FT.out.2.2.1; have := FT.out.2.1; omega)).mono ?_
              rintro e w1 ⟨rfl, hb⟩
              rw [HE.out.1]
              have HQ1 := Lib.hid (show _ ∧ _ ∧ _ from ⟨HQ.out.1.below hb (Nat.le_refl _), HQ.out.2.1.trans (hb.mono (by have := HQ.out.2.1.size; have := HHB.out; omega)), HQ.out.2.2.below hb HQ.out.2.2.lt⟩)
              clear hb a0 a1 a2 HQ
              obtain ⟨a0, a1, a2⟩ := HQ1.out.2.2.c
              go_wp2_with fail
              refine (inRel_any a.n a.s a.r y y _ hyn hyn FT.out.2.1 FT.out.2.2.2).mono ?_
              rintro e w2 ⟨rfl, hb⟩
              rw [HE.out.2]
              have HQ2 := Lib.hid (show _ ∧ _ ∧ _ from ⟨HQ1.out.1.below hb (Nat.le_refl _), HQ1.out.2.1.trans (hb.mono (by have := HQ1.out.2.1.size; have := HHB.out; omega)), HQ1.out.2.2.below hb HQ1.out.2.2.lt⟩)
              clear hb a0 a1 a2 HQ1
              have AL : Below w2.heap.size w2 (w2.alloc (.cells #[.int .i64 0] 3)) := (Below.refl _ _).alloc (Nat.le_refl _) _
              have hBw : HB ≤ w2.heap.size := by have := HQ2.out.2.1.size; have := HHB.out; omega
              have OI : OwnI 3 (w2.alloc (.cells #[.int .i64 0] 3)) w2.heap.size (.slice (some ⟨w2.heap.size, 0, none⟩) 1 1) [(0 : Int)] := kind.oneRow _ _ _ _ _ rfl (Nat.le_refl _)
              have OL0 := HQ2.out.1
              obtain ⟨us, hul, hrow, hus⟩ := (OL0.below AL (Nat.le_refl _)).row
              obtain ⟨m, hum⟩ : ∃ m, m = us.length := ⟨_, rfl⟩
              rw [← hum] at hrow
              have hm8 : m ≤ 100 := by
                rw [hum, hul, fTo_len]
                have := LT.out k
                have := FT.out.2.1
                omega
              have hlt : ∀ q, u5.ownBlock = some q → q < w2.heap.size := fun q hq => by
                rcases OL0.len with ⟨h, _⟩ | ⟨g9, c9, h, h9, h8⟩
                · rw [h] at hq; cases hq
                · rw [h] at hq; have : g9 = q := Option.some.inj hq; omega
              have HO := Lib.hid (show _ ∧ _ ∧ _ ∧ _ ∧ _ ∧ _ from ⟨hul, hus, hum, hrow, OI, hlt⟩)
              have AL1 := Lib.hid AL
              clear hul hus hum hrow OI OL0 AL hlt
              go_wp2_with (at_builtin; refine wpList_app1 (w2.alloc (.cells #[.int .i64 0] 3)) rfl (.tmp 38) (.tmp 41) 100 rfl HB 29 (.slice none 0 0) 24 Tryz.underlying100 sll.infoSl rfl (by decide) _ _ _ (.slice (some ⟨w2.heap.size, 0, none⟩) 1 1) rfl HO.out.2.2.2.1 (w2.heap.size + 1) (by simp) rfl rfl (by omega) (by omega) ?_)
              intro g' cap' w9 hown9 hgr
              have R : Hid (OwnL w9 HB (.slice (some ⟨g', 0, none⟩) (m + 1) cap') (fTo As k a (y + 1)) ∧ Below HB w w9 ∧ Box 24 w9 HX a.n a.s a.r) := by
                obtain ⟨h1, h2, h3, h4, h5, h6⟩ := HO.out
                have hb9 := hgr.below h4 (Nat.le_trans hBw AL1.out.size)
                have hbx : Box 24 (w2.alloc (.cells #[.int .i64 0] 3)) HX a.n a.s a.r := HQ2.out.2.2.below AL1.out HQ2.out.2.2.lt
                refine ⟨?_, HQ2.out.2.1.trans ((AL1.out.mono hBw).trans hb9), ?_⟩
                · rw [fTo_succ, HD.out]
                  refine own_push' h3.symm h1 h2 h5.reads (by simp) (fun q hq e => ?_) hown9 hgr
                  have := h6 q hq
                  have : w2.heap.size = q := Option.some.inj e
                  omega
                · exact box_grew (by decide) hbx h4 hgr
              clear hown9 hgr HO
              go_wp2
              go_roundw
              case rel => exact ⟨y + 1, by omega, by go_num, R.out⟩
              case measure => simp [intOf]; omega
            | true =>
              have HD : Hid (d0 a y = [(1 : Int)]) := by
                unfold Hid d0 n01
                simp only [e1, e2]; rfl
              have HE := Lib.hid (show _ ∧ _ from ⟨e1, e2⟩)
              clear e1 e2
              go_wp2_with fail
              refine (inSet_any a.n a.s a.r y _ hsy (by have := FT.out.2.2.1; have := FT.out.2.1; omega)).mono ?_
              rintro e w1 ⟨rfl, hb⟩
              rw [HE.out.1]
              have HQ1 := Lib.hid (show _ ∧ _ ∧ _ from ⟨HQ.out.1.below hb (Nat.le_refl _), HQ.out.2.1.trans (hb.mono (by have := HQ.out.2.1.size; have := HHB.out; omega)), HQ.out.2.2.below hb HQ.out.2.2.lt⟩)
              clear hb a0 a1 a2 HQ
              obtain ⟨a0, a1, a2⟩ := HQ1.out.2.2.c
              go_wp2_with fail
              refine (inRel_any a.n a.s a.r y y _ hyn hyn FT.out.2.1 FT.out.2.2.2).mono ?_
              rintro e w2 ⟨rfl, hb⟩
              rw [HE.out.2]
              have HQ2 := Lib.hid (show _ ∧ _ ∧ _ from ⟨HQ1.out.1.below hb (Nat.le_refl _), HQ1.out.2.1.trans (hb.mono (by have := HQ1.out.2.1.size; have := HHB.out; omega)), HQ1.out.2.2.below hb HQ1.out.2.2.lt⟩)
              clear hb a0 a1 a2 HQ1
              have AL : Below w2.heap.size w2 (w2.alloc (.cells #[.int .i64 1] 3)) := (Below.refl _ _).alloc (Nat.le_refl _) _
              have hBw : HB ≤ w2.heap.size := by have := HQ2.out.2.1.size; have := HHB.out; omega
              have OI : OwnI 3 (w2.alloc (.cells #[.int .i64 1] 3)) w2.heap.size (.slice (some ⟨w2.heap.size, 0, none⟩) 1 1) [(1 : Int)] := kind.oneRow _ _ _ _ _ rfl (Nat.le_refl _)
              have OL0 := HQ2.out.1
              obtain ⟨us, hul, hrow, hus⟩ := (OL0.below AL (Nat.le_refl _)).row
              obtain ⟨m, hum⟩ : ∃ m, m = us.length := ⟨_, rfl⟩
              rw [← hum] at hrow
              have hm8 : m ≤ 100 := by
                rw [hum, hul, fTo_len]
                have := LT.out k
                have := FT.out.2.1
                omega
              have hlt : ∀ q, u5.ownBlock = some q → q < w2.heap.size := fun q hq => by
                rcases OL0.len with ⟨h, _⟩ | ⟨g9, c9, h, h9, h8⟩
                · rw [h] at hq; cases hq
                · rw [h] at hq; have : g9 = q := Option.some.inj hq; omega
              have HO := Lib.hid (show _ ∧ _ ∧ _ ∧ _ ∧ _ ∧ _ from ⟨hul, hus, hum, hrow, OI, hlt⟩)
              have AL1 := Lib.hid AL
              clear hul hus hum hrow OI OL0 AL hlt
              go_wp2_with (at_builtin; refine wpList_app1 (w2.alloc (.cells #[.int .i64 1] 3)) rfl (.tmp 38) (.tmp 41) 100 rfl HB 29 (.slice none 0 0) 24 Tryz.underlying100 sll.infoSl rfl (by decide) _ _ _ (.slice (some ⟨w2.heap.size, 0, none⟩) 1 1) rfl HO.out.2.2.2.1 (w2.heap.size + 1) (by simp) rfl rfl (by omega) (by omega) ?_)
              intro g' cap' w9 hown9 hgr
              have R : Hid (OwnL w9 HB (.slice (some ⟨g', 0, none⟩) (m + 1) cap') (fTo As k a (y + 1)) ∧ Below HB w w9 ∧ Box 24 w9 HX a.n a.s a.r) := by
                obtain ⟨h1, h2, h3, h4, h5, h6⟩ := HO.out
                have hb9 := hgr.below h4 (Nat.le_trans hBw AL1.out.size)
                have hbx : Box 24 (w2.alloc (.cells #[.int .i64 1] 3)) HX a.n a.s a.r := HQ2.out.2.2.below AL1.out HQ2.out.2.2.lt
                refine ⟨?_, HQ2.out.2.1.trans ((AL1.out.mono hBw).trans hb9), ?_⟩
                · rw [fTo_succ, HD.out]
                  refine own_push' h3.symm h1 h2 h5.reads (by simp) (fun q hq e => ?_) hown9 hgr
                  have := h6 q hq
                  have : w2.heap.size = q := Option.some.inj e
                  omega
                · exact box_grew (by decide) hbx h4 hgr
              clear hown9 hgr HO
              go_wp2
              go_roundw
              case rel => exact ⟨y + 1, by omega, by go_num, R.out⟩
              case measure => simp [intOf]; omega
          | true =>
            cases e2 : bitAt a.r (y * a.n + y) with
            | false =>
              have HD : Hid (d0 a y = [(2 : Int)]) := by
                unfold Hid d0 n01
                simp only [e1, e2]; rfl
              have HE := Lib.hid (show _ ∧ _ from ⟨e1, e2⟩)
              clear e1 e2
              go_wp2_with fail
              refine (inSet_any a.n a.s a.r y _ hsy (by have := FT.out.2.2.1; have := FT.out.2.1; omega)).mono ?_
              rintro e w1 ⟨rfl, hb⟩
              rw [HE.out.1]
              have HQ1 := Lib.hid (show _ ∧ _ ∧ _ from ⟨HQ.out.1.below hb (Nat.le_refl _), HQ.out.2.1.trans (hb.mono (by have := HQ.out.2.1.size; have := HHB.out; omega)), HQ.out.2.2.below hb HQ.out.2.2.lt⟩)
              clear hb a0 a1 a2 HQ
              obtain ⟨a0, a1, a2⟩ := HQ1.out.2.2.c
              go_wp2_with fail
              refine (inRel_any a.n a.s a.r y y _ hyn hyn FT.out.2.1 FT.out.2.2.2).mono ?_
              rintro e w2 ⟨rfl, hb⟩
              rw [HE.out.2]
              have HQ2 := Lib.hid (show _ ∧ _ ∧ _ from ⟨HQ1.out.1.below hb (Nat.le_refl _), HQ1.out.2.1.trans (hb.mono (by have := HQ1.out.2.1.size; have := HHB.out; omega)), HQ1.out.2.2.below hb HQ1.out.2.2.lt⟩)
              clear hb a0 a1 a2 HQ1
              have AL : Below w2.heap.size w2 (w2.alloc (.cells #[.int .i64 2] 3)) := (Below.refl _ _).alloc (Nat.le_refl _) _
              have hBw : HB ≤ w2.heap.size := by have := HQ2.out.2.1.size; have := HHB.out; omega
              have OI : OwnI 3 (w2.alloc (.cells #[.int .i64 2] 3)) w2.heap.size (.slice (some ⟨w2.heap.size, 0, none⟩) 1 1) [(2 : Int)] := kind.oneRow _ _ _ _ _ rfl (Nat.le_refl _)
              have OL0 := HQ2.out.1
              obtain ⟨us, hul, hrow, hus⟩ := (OL0.below AL (Nat.le_refl _)).row
              obtain ⟨m, hum⟩ : ∃ m, m = us.length := ⟨_, rfl⟩
              rw [← hum] at hrow
              have hm8 : m ≤ 100 := by
                rw [hum, hul, fTo_len]
                have := LT.out k
                have := FT.out.2.1
                omega
              have hlt : ∀ q, u5.ownBlock = some q → q < w2.heap.size := fun q hq => by
                rcases OL0.len with ⟨h, _⟩ | ⟨g9, c9, h, h9, h8⟩
                · rw [h] at hq; cases hq
                · rw [h] at hq; have : g9 = q := Option.some.inj hq; omega
              have HO := Lib.hid (show _ ∧ _ ∧ _ ∧ _ ∧ _ ∧ _ from ⟨hul, hus, hum, hrow, OI, hlt⟩)
              have AL1 := Lib.hid AL
              clear hul hus hum hrow OI OL0 AL hlt
              go_wp2_with (at_builtin; refine wpList_app1 (w2.alloc (.cells #[.int .i64 2] 3)) rfl (.tmp 38) (.tmp 41) 100 rfl HB 29 (.slice none 0 0) 24 Tryz.underlying100 sll.infoSl rfl (by decide) _ _ _ (.slice (some ⟨w2.heap.size, 0, none⟩) 1 1) rfl HO.out.2.2.2.1 (w2.heap.size + 1) (by simp) rfl rfl (by omega) (by omega) ?_)
              intro g' cap' w9 hown9 hgr
              have R : Hid (OwnL w9 HB (.slice (some ⟨g', 0, none⟩) (m + 1) cap') (fTo As k a (y + 1)) ∧ Below HB w w9 ∧ Box 24 w9 HX a.n a.s a.r) := by
                obtain ⟨h1, h2, h3, h4, h5, h6⟩ := HO.out
                have hb9 := hgr.below h4 (Nat.le_trans hBw AL1.out.size)
                have hbx : Box 24 (w2.alloc (.cells #[.int .i64 2] 3)) HX a.n a.s a.r := HQ2.out.2.2.below AL1.out HQ2.out.2.2.lt
                refine ⟨?_, HQ2.out.2.1.trans ((AL1.out.mono hBw).trans hb9), ?_⟩
                · rw [fTo_succ, HD.out]
                  refine own_push' h3.symm h1 h2 h5.reads (by simp) (fun q hq e => ?_) hown9 hgr
                  have := h6 q hq
                  have : w2.heap.size = q := Option.some.inj e
                  omega
                · exact box_grew (by decide) hbx h4 hgr
              clear hown9 hgr HO
              go_wp2
              go_roundw
              case rel => exact ⟨y + 1, by omega, by go_num, R.out⟩
              case measure => simp [intOf]; omega
            | true =>
              have HD : Hid (d0 a y = [(3 : Int)]) := by
                unfold Hid d0 n01
                simp only [e1, e2]; rfl
              have HE := Lib.hid (show _ ∧ _ from ⟨e1, e2⟩)
              clear e1 e2
              go_wp2_with fail
              refine (inSet_any a.n a.s a.r y _ hsy (by have := FT.out.2.2.1; have := FT.out.2.1; omega)).mono ?_
              rintro e w1 ⟨rfl, hb⟩
              rw [HE.out.1]
              have HQ1 := Lib.hid (show _ ∧ _ ∧ _ from ⟨HQ.out.1.below hb (Nat.le_refl _), HQ.out.2.1.trans (hb.mono (by have := HQ.out.2.1.size; have := HHB.out; omega)), HQ.out.2.2.below hb HQ.out.2.2.lt⟩)
              clear hb a0 a1 a2 HQ
              obtain ⟨a0, a1, a2⟩ := HQ1.out.2.2.c
              go_wp2_with fail
              refine (inRel_any a.n a.s a.r y y _ hyn hyn FT.out.2.1 FT.out.2.2.2).mono ?_
              rintro e w2 ⟨rfl, hb⟩
              rw [HE.out.2]
              have HQ2 := Lib.hid (show _ ∧ _ ∧ _ from ⟨HQ1.out.1.below hb (Nat.le_refl _), HQ1.out.2.1.trans (hb.mono (by have := HQ1.out.2.1.size; have := HHB.out; omega)), HQ1.out.2.2.below hb HQ1.out.2.2.lt⟩)
              clear hb a0 a1 a2 HQ1
              have AL : Below w2.heap.size w2 (w2.alloc (.cells #[.int .i64 3] 3)) := (Below.refl _ _).alloc (Nat.le_refl _) _
              have hBw : HB ≤ w2.heap.size := by have := HQ2.out.2.1.size; have := HHB.out; omega
              have OI : OwnI 3 (w2.alloc (.cells #[.int .i64 3] 3)) w2.heap.size (.slice (some ⟨w2.heap.size, 0, none⟩) 1 1) [(3 : Int)] := kind.oneRow _ _ _ _ _ rfl (Nat.le_refl _)
              have OL0 := HQ2.out.1
              obtain ⟨us, hul, hrow, hus⟩ := (OL0.below AL (Nat.le_refl _)).row
              obtain ⟨m, hum⟩ : ∃ m, m = us.length := ⟨_, rfl⟩
              rw [← hum] at hrow
              have hm8 : m ≤ 100 := by
                rw [hum, hul, fTo_len]
                have := LT.out k
                have := FT.out.2.1
                omega
              have hlt : ∀ q, u5.ownBlock = some q → q < w2.heap.size := fun q hq => by
                rcases OL0.len with ⟨h, _⟩ | ⟨g9, c9, h, h9, h8⟩
                · rw [h] at hq; cases hq
                · rw [h] at hq; have : g9 = q := Option.some.inj hq; omega
              have HO := Lib.hid (show _ ∧ _ ∧ _ ∧ _ ∧ _ ∧ _ from ⟨hul, hus, hum, hrow, OI, hlt⟩)
              have AL1 := Lib.hid AL
              clear hul hus hum hrow OI OL0 AL hlt
              go_wp2_with (at_builtin; refine wpList_app1 (w2.alloc (.cells #[.int .i64 3] 3)) rfl (.tmp 38) (.tmp 41) 100 rfl HB 29 (.slice none 0 0) 24 Tryz.underlying100 sll.infoSl rfl (by decide) _ _ _ (.slice (some ⟨w2.heap.size, 0, none⟩) 1 1) rfl HO.out.2.2.2.1 (w2.heap.size + 1) (by simp) rfl rfl (by omega) (by omega) ?_)
              intro g' cap' w9 hown9 hgr
              have R : Hid (OwnL w9 HB (.slice (some ⟨g', 0, none⟩) (m + 1) cap') (fTo As k a (y + 1)) ∧ Below HB w w9 ∧ Box 24 w9 HX a.n a.s a.r) := by
                obtain ⟨h1, h2, h3, h4, h5, h6⟩ := HO.out
                have hb9 := hgr.below h4 (Nat.le_trans hBw AL1.out.size)
                have hbx : Box 24 (w2.alloc (.cells #[.int .i64 3] 3)) HX a.n a.s a.r := HQ2.out.2.2.below AL1.out HQ2.out.2.2.lt
                refine ⟨?_, HQ2.out.2.1.trans ((AL1.out.mono hBw).trans hb9), ?_⟩
                · rw [fTo_succ, HD.out]
                  refine own_push' h3.symm h1 h2 h5.reads (by simp) (fun q hq e => ?_) hown9 hgr
                  have := h6 q hq
                  have : w2.heap.size = q := Option.some.inj e
                  omega
                · exact box_grew (by decide) hbx h4 hgr
              clear hown9 hgr HO
              go_wp2
              go_roundw
              case rel => exact ⟨y + 1, by omega, by go_num, R.out⟩
              case measure => simp [intOf]; omega
        · have hye : y = a.n := by omega
          have R : Hid (OwnL wr HB u5 (firsts (As.take (k + 1))) ∧ Below HB w wr) := by
            rw [← fTo_full HA.out, ← hye]; exact ⟨HQ.out.1, HQ.out.2.1⟩
          go_wp2
          go_roundw
          case rel => exact ⟨k + 1, by omega, by go_num, R.out⟩
          case measure => simp [intOf]; omega
    · obtain rfl : L = k := by omega
      have eT : As.take L = As := List.take_of_length_le (by have := HS.out.2; omega)
      rw [eT] at HQ
      obtain ⟨tn, hTn⟩ : ∃ tn, tn = total As := ⟨_, rfl⟩
      obtain ⟨g0, c0, hv0⟩ : ∃ g0 c0, u5 = .slice (some ⟨g0, 0, none⟩) tn c0 := by
        rcases HQ.out.1.len with ⟨_, h0⟩ | ⟨g, cap, hv, _⟩
        · have e := firsts_len As
          rw [h0] at e
          have := TP.out.1
          simp at e; omega
        · exact ⟨g, cap, by rw [hv, firsts_len, hTn]⟩
      subst hv0
      have HTn := Lib.hid hTn
      have h1n : 1 ≤ tn ∧ tn ≤ 16 := by rw [hTn]; exact TP.out
      have hBr : HB ≤ wr.heap.size := by have := HQ.out.2.size; have := HHB.out; omega
      clear eT hTn
      go_wp2_with fail
      refine (colouredOf_any _ HB g0 tn c0 (firsts As) HQ.out.1 h1n.1 (by omega) (firsts_rows As)).mono ?_
      rintro e w1 ⟨u, rfl, ho, hb⟩
      have ST3 : Hid (OwnI 3 w1 HB u (cols As 0) ∧ Below HB w w1) := ⟨ho.mono hBr, HQ.out.2.trans (hb.mono hBr)⟩
      clear ho hb HQ hBr
      go_wp2_with fail
      go_loopw [10, 48] (fun u i wr => ∃ j : Nat, j ≤ R ∧ i = .int .i64 j ∧ OwnI 3 wr HB u (cols As j) ∧ Below HB w wr) (fun _ i _ => R - (intOf i).toNat)
      case atStart => exact ⟨0, Nat.zero_le _, rfl, ST3.out⟩
      case round =>
        clear ST3
        obtain ⟨j, hj, rfl, q1, q2⟩ := hrel
        have HQ := Lib.hid (show _ ∧ _ from ⟨q1, q2⟩)
        clear q1 q2
        by_cases hjR : j < R
        · obtain ⟨c, hc⟩ : ∃ c, c = cols As j := ⟨_, rfl⟩
          have HCC := Lib.hid hc
          rw [← hc] at HQ
          have hcl : c.length = tn := by rw [hc, cols_len, HTn.out]
          have HCL := Lib.hid hcl
          obtain ⟨gc, cc, hv0⟩ : ∃ gc cc, u10 = .slice (some ⟨gc, 0, none⟩) tn cc := by
            rcases HQ.out.1.shape with ⟨_, h0⟩ | ⟨g, cap, hv⟩
            · rw [h0] at hcl; simp at hcl; omega
            · exact ⟨g, cap, by rw [hv, hcl]⟩
          subst hv0
          obtain ⟨WO, hWO⟩ : ∃ W, W = wr := ⟨_, rfl⟩
          obtain ⟨HC, hHC⟩ : ∃ HC, HC = wr.heap.size := ⟨_, rfl⟩
          have HHC := Lib.hid hHC
          have hBC : HB ≤ HC := by have := HQ.out.2.size; have := HHB.out; omega
          have hcap := own_cap HQ.out.1
          have hgc : gc < HC := by have := HQ.out.1.ge; omega
          have ST4 : Hid (OwnL (wr.alloc (.cells #[] 29)) HC (.slice (some ⟨HC, 0, none⟩) 0 0) (nexts (As.take 0) c) ∧ Below HC WO (wr.alloc (.cells #[] 29))) := by
            rw [hHC, hWO]; exact ⟨OwnL.empty _ _ _ rfl (Nat.le_refl _), (Below.refl _ _).alloc (Nat.le_refl _) _⟩
          have HQ0 : Hid (OwnI 3 WO HB (.slice (some ⟨gc, 0, none⟩) tn cc) c ∧ Below HB w WO ∧ WO.heap.size = HC) := by rw [hWO]; exact ⟨HQ.out.1, HQ.out.2, hHC.symm⟩
          clear hHC hWO hc hcl HQ
          go_wp2_with fail
          try rw [← HHC.out]
          clear HHC
          go_loopw [5, 11, 53] (fun u b i wq => ∃ k : Nat, k ≤ L ∧ b = .int .i64 (total (As.take k)) ∧ i = .int .i64 k ∧ OwnL wq HC u (nexts (As.take k) c) ∧ Below HC WO wq) (fun _ _ i _ => L - (intOf i).toNat)
          case atStart => exact ⟨0, Nat.zero_le _, rfl, rfl, ST4.out⟩
          case round =>
            clear ST4
            obtain ⟨k, hk, rfl, rfl, q1, q2⟩ := hrel
            have HQ := Lib.hid (show _ ∧ _ from ⟨q1, q2⟩)
            have hCw : HC ≤ wr.heap.size := by have := q2.size; have := HQ0.out.2.2; omega
            clear q1 q2
            obtain ⟨T, hT⟩ : ∃ T, T = total (As.take k) := ⟨_, rfl⟩
            rw [← hT]
            have HT := Lib.hid hT
            clear hT
            by_cases hkL : k < L
            · obtain ⟨a, ha⟩ : ∃ a, As[k]? = some a := ⟨_, List.getElem?_eq_getElem (by have := HS.out.2; omega)⟩
              have BW : Hid (Below HB w wr) := HQ0.out.2.1.trans (HQ.out.2.mono hBC)
              obtain ⟨c0, c1, c2⟩ := HS.out.1.c k a ha
              have d0 : wr.cell? ⟨g, k * 3, none⟩ = some (.int .i64 a.n) := by rw [BW.out.cell (p := ⟨g, k * 3, none⟩) hg]; exact c0
              have d1 : wr.cell? ⟨g, k * 3 + 1, none⟩ = some (.string a.s) := by rw [BW.out.cell (p := ⟨g, k * 3 + 1, none⟩) hg]; exact c1
              have d2 : wr.cell? ⟨g, k * 3 + 2, none⟩ = some (.string a.r) := by rw [BW.out.cell (p := ⟨g, k * 3 + 2, none⟩) hg]; exact c2
              have HA := Lib.hid ha
              have hTa : T + a.n = total (As.take (k + 1)) ∧ T + a.n ≤ tn := by
                have h1 := total_take As k a ha
                have h2 := total_part As (k + 1)
                have := HT.out
                have := HTn.out
                omega
              have HTA := Lib.hid hTa.1
              have hTa2 := hTa.2
              clear c0 c1 c2 ha hTa
              obtain ⟨HX, hHX⟩ : ∃ HX, HX = wr.heap.size := ⟨_, rfl⟩
              have FT : Hid (Fit a) := HS.out.1.fit a (List.mem_of_getElem? HA.out)
              have ST5 : Hid (OwnL (wr.alloc (.cells #[.int .i64 a.n, .string a.s, .string a.r] 24)) HC u5 (nTo As c k a 0) ∧ Below HB w (wr.alloc (.cells #[.int .i64 a.n, .string a.s, .string a.r] 24)) ∧ Box 24 (wr.alloc (.cells #[.int .i64 a.n, .string a.s, .string a.r] 24)) HX a.n a.s a.r ∧ OwnI 3 (wr.alloc (.cells #[.int .i64 a.n, .string a.s, .string a.r] 24)) HB (.slice (some ⟨gc, 0, none⟩) tn cc) c ∧ HC ≤ (wr.alloc (.cells #[.int .i64 a.n, .string a.s, .string a.r] 24)).heap.size ∧ Below HC WO (wr.alloc (.cells #[.int .i64 a.n, .string a.s, .string a.r] 24))) := by
                have AL : Below wr.heap.size wr (wr.alloc (.cells #[.int .i64 a.n, .string a.s, .string a.r] 24)) := (Below.refl _ _).alloc (Nat.le_refl _) _
                refine ⟨by rw [nTo_zero]; exact HQ.out.1.below AL (Nat.le_refl _), BW.out.trans (AL.mono (by omega)), ?_, (HQ0.out.1.below HQ.out.2 (by rw [HQ0.out.2.2]; exact Nat.le_refl _)).below AL (Nat.le_refl _), Nat.le_trans hCw AL.size, HQ.out.2.trans (AL.mono hCw)⟩
                rw [hHX]; exact Box.new _ _ _ rfl _ _ _
              have HXX := Lib.hid hHX
              clear HQ BW
              go_wp2_with fail
              try rw [← HXX.out]
              clear d0 d1 d2 hHX hCw HXX
              go_loopw [5, 59] (fun u i wq => ∃ y : Nat, y ≤ a.n ∧ i = .int .i64 y ∧ OwnL wq HC u (nTo As c k a y) ∧ Below HB w wq ∧ Box 24 wq HX a.n a.s a.r ∧ OwnI 3 wq HB (.slice (some ⟨gc, 0, none⟩) tn cc) c ∧ HC ≤ wq.heap.size ∧ Below HC WO wq) (fun _ i _ => a.n - (intOf i).toNat)
              case atStart => exact ⟨0, Nat.zero_le _, rfl, ST5.out⟩
              case round =>
                clear ST5
                obtain ⟨y, hy, rfl, q1, q2, q3, q4, q5, q6⟩ := hrel
                have HQ := Lib.hid (show _ ∧ _ ∧ _ ∧ _ ∧ _ ∧ _ from ⟨q1, q2, q3, q4, q5, q6⟩)
                clear q1 q2 q3 q4 q5 q6
                obtain ⟨a0, a1, a2⟩ := HQ.out.2.2.1.c
                have ha8 : a.n ≤ 8 := FT.out.2.1
                by_cases hyn : y < a.n
                · have RDS : Hid (Reads wr.drew (.slice (some ⟨gc, T, none⟩) a.n (cc - T)) ((c.drop T).take a.n)) := (sub_reads HQ.out.2.2.2.1 (by omega)).below ((Below.refl _ _).drew) (Nat.le_refl _)
                  have HDL : Hid (((c.drop T).take a.n).length = a.n) := by
                    rw [Hid, List.length_take, List.length_drop]; have := HCL.out; omega
                  have hlt : Hid (∀ q, u5.ownBlock = some q → q < wr.heap.size) := fun q hq => by
                    rcases HQ.out.1.len with ⟨h, _⟩ | ⟨g9, c9, h, h9, h8⟩
                    · rw [h] at hq; cases hq
                    · rw [h] at hq; have : g9 = q := Option.some.inj hq; omega
                  have hcw : HC ≤ wr.heap.size := HQ.out.2.2.2.2.1
                  have q0 : ∀ QQ : Wd (fun Q => Q.cell? ⟨HX, 0, none⟩ = some (.int .i64 a.n) ∧ Q.cell? ⟨HX, 1, none⟩ = some (.string a.s) ∧ Q.cell? ⟨HX, 2, none⟩ = some (.string a.r)), QQ.w.cell? ⟨HX, 0, none⟩ = some (.int .i64 a.n) := fun QQ => QQ.ok.1
                  have q1 : ∀ QQ : Wd (fun Q => Q.cell? ⟨HX, 0, none⟩ = some (.int .i64 a.n) ∧ Q.cell? ⟨HX, 1, none⟩ = some (.string a.s) ∧ Q.cell? ⟨HX, 2, none⟩ = some (.string a.r)), QQ.w.cell? ⟨HX, 1, none⟩ = some (.string a.s) := fun QQ => QQ.ok.2.1
                  have q2 : ∀ QQ : Wd (fun Q => Q.cell? ⟨HX, 0, none⟩ = some (.int .i64 a.n) ∧ Q.cell? ⟨HX, 1, none⟩ = some (.string a.s) ∧ Q.cell? ⟨HX, 2, none⟩ = some (.string a.r)), QQ.w.cell? ⟨HX, 2, none⟩ = some (.string a.r) := fun QQ => QQ.ok.2.2
                  have hne : Nonempty (Wd (fun Q => Q.cell? ⟨HX, 0, none⟩ = some (.int .i64 a.n) ∧ Q.cell? ⟨HX, 1, none⟩ = some (.string a.s) ∧ Q.cell? ⟨HX, 2, none⟩ = some (.string a.r))) := ⟨⟨wr, ⟨a0, a1, a2⟩⟩⟩
                  go_wp2_with fail
                  refine chain_last (S := (fun Q => Q.cell? ⟨HX, 0, none⟩ = some (.int .i64 a.n) ∧ Q.cell? ⟨HX, 1, none⟩ = some (.string a.s) ∧ Q.cell? ⟨HX, 2, none⟩ = some (.string a.r))) [([true, true, true, true, true, true, true, true, true, true], 10), ([], 11), ([], 12)] [] (by kernel_rfl) (by kernel_rfl) (by kernel_rfl) (by kernel_rfl) (by kernel_rfl) (by kernel_rfl) ⟨a0, a1, a2⟩ ?_
                  simp only [wpSegs, pickB, List.dropLast_cons_cons, List.dropLast_singleton, List.getLast?_cons_cons, List.getLast?_singleton, List.toList_toArray, List.getElem?_toArray, List.getElem?_cons_succ, List.getElem?_cons_zero, Option.toList_some]
                  repeat (go_big_quiet_step (fail))
                  refine wpQuiet_nil ?_
                  intro K hK
                  go_wp2_with fail
                  refine (describe_any a.n a.s a.r ((c.drop T).take a.n) _ y _ hyn ha8 FT.out.2.2.2 RDS.out HDL.out).mono ?_
                  rintro e w3 ⟨v0, rfl, ho, hb⟩
                  obtain ⟨g2, dl, cap2, hv2⟩ : ∃ g2 dl cap2, v0 = .slice (some ⟨g2, 0, none⟩) dl cap2 := by
                    rcases ho.shape with ⟨_, h0⟩ | ⟨g, cap, hv⟩
                    · exact absurd h0 (desc_ne _ _ _)
                    · exact ⟨g, _, cap, hv⟩
                  subst hv2
                  have hb9 : Below wr.heap.size wr w3 := ((Below.refl wr.heap.size wr).drew).trans hb
                  have hg2 : Hid (wr.heap.size ≤ g2) := ho.ge.1
                  have F3 := Lib.hid (show _ ∧ _ ∧ _ ∧ _ ∧ _ ∧ _ ∧ _ from ⟨ho, HQ.out.1.below hb9 (Nat.le_refl _), HQ.out.2.1.trans (hb9.mono (by omega)), HQ.out.2.2.1.below hb9 HQ.out.2.2.1.lt, HQ.out.2.2.2.1.below hb9 (Nat.le_refl _), Nat.le_trans hcw hb9.size, HQ.out.2.2.2.2.2.trans (hb9.mono hcw)⟩)
                  have AL3 : Hid (Below w3.heap.size w3 (w3.alloc (.cells #[.slice (some ⟨g2, 0, none⟩) dl cap2] 29))) := (Below.refl _ _).alloc (Nat.le_refl _) _
                  obtain ⟨us, hul, hrow, hus⟩ := F3.out.2.1.row
                  obtain ⟨m, hum⟩ : ∃ m, m = us.length := ⟨_, rfl⟩
                  rw [← hum] at hrow
                  have hm8 : m ≤ 100 := by rw [hum, hul, nTo_len, ← HT.out]; omega
                  have HO := Lib.hid (show _ ∧ _ ∧ _ ∧ _ from ⟨hul, hus, hum, hrow⟩)
                  clear ho hb hb9 HQ hul hus hum hrow
                  go_wp2_with fail
                  refine hK _ _ F3.out.2.2.2.1.c ?_
                  clear hK K
                  repeat (go_big_quiet_step (fail))
                  refine wpQuiet_nil ?_
                  intro K hK
                  go_wp2_with fail
                  refine hK _ _ (F3.out.2.2.2.1.below AL3.out F3.out.2.2.2.1.lt).c ?_
                  clear hK K
                  repeat (go_big_quiet_step (fail))
                  refine wpQuiet_nil ?_
                  intro K hK
                  go_wp2_with (at_builtin; refine wpList_app1 w3 rfl (.tmp 62) (.tmp 73) 100 rfl HC 29 (.slice none 0 0) 24 Tryz.underlying100 sll.infoSl rfl (by decide) _ _ _ (.slice (some ⟨g2, 0, none⟩) dl cap2) rfl HO.out.2.2.2 w3.heap.size rfl rfl rfl (by omega) F3.out.2.2.2.2.2.1 ?_)
                  intro g9 cap9 w9 hown9 hgr
                  have R : Hid (OwnL w9 HC (.slice (some ⟨g9, 0, none⟩) (m + 1) cap9) (nTo As c k a (y + 1)) ∧ Below HB w w9 ∧ Box 24 w9 HX a.n a.s a.r ∧ OwnI 3 w9 HB (.slice (some ⟨gc, 0, none⟩) tn cc) c ∧ HC ≤ w9.heap.size ∧ Below HC WO w9) := by
                    obtain ⟨h1, h2, h3, h4⟩ := HO.out
                    obtain ⟨f1, f2, f3, f4, f5, f6, f7⟩ := F3.out
                    have hb9 := hgr.below h4 f6
                    refine ⟨?_, f3.trans (hb9.mono hBC), box_grew (by decide) f4 h4 hgr, own_low f5 hb9 hgc, Nat.le_trans f6 hb9.size, f7.trans hb9⟩
                    rw [nTo_succ, ← HT.out]
                    refine own_push' h3.symm h1 h2 (OwnI.reads f1) (desc_ne _ _ _) (fun q hq e => ?_) hown9 hgr
                    have := hlt.out q hq
                    have := hg2.out
                    have : g2 = q := Option.some.inj e
                    omega
                  clear hown9 hgr HO F3 AL3
                  go_wp2_with fail
                  refine hK _ _ R.out.2.2.1.c ?_
                  clear hK K
                  repeat (go_big_quiet_step (fail))
                  refine wpQuiet_nil ?_
                  show wpList _ _ _ _ _ _
                  clear q0 q1 q2 hne
                  go_wp2
                  go_roundw
                  case rel => exact ⟨y + 1, by omega, by go_num, R.out⟩
                  case measure => simp [intOf]; omega
                · have hye : y = a.n := by omega
                  have R : Hid (OwnL wr HC u5 (nexts (As.take (k + 1)) c) ∧ Below HC WO wr) := by
                    rw [← nTo_full HA.out, ← hye]; exact ⟨HQ.out.1, HQ.out.2.2.2.2.2⟩
                  go_wp2
                  go_roundw
                  case rel => exact ⟨k + 1, by omega, by rw [← HTA.out]; go_num, by go_num, R.out⟩
                  case measure => simp [intOf]; omega
            · obtain rfl : L = k := by omega
              have eT : As.take L = As := List.take_of_length_le (by have := HS.out.2; omega)
              rw [eT] at HQ
              obtain ⟨g0, c0, hv0⟩ : ∃ g0 c0, u5 = .slice (some ⟨g0, 0, none⟩) tn c0 := by
                rcases HQ.out.1.len with ⟨_, h0⟩ | ⟨g, cap, hv, _⟩
                · have e := nexts_len As c
                  rw [h0] at e
                  have := TP.out.1
                  simp at e; omega
                · exact ⟨g, cap, by rw [hv, nexts_len, HTn.out]⟩
              subst hv0
              clear eT
              go_wp2_with fail
              refine (colouredOf_any _ HC g0 tn c0 (nexts As c) HQ.out.1 h1n.1 (by omega) (nexts_rows As c HS.out.1.fit)).mono ?_
              rintro e w1 ⟨u, rfl, ho, hb⟩
              have R : Hid (OwnI 3 w1 HB u (cols As (j + 1)) ∧ Below HB w w1) := by
                refine ⟨?_, (HQ0.out.2.1.trans (HQ.out.2.mono hBC)).trans (hb.mono (by omega))⟩
                rw [cols, ← HCC.out]
                exact ho.mono (by omega)
              clear ho hb
              go_wp2
              go_roundw
              case rel => exact ⟨j + 1, by omega, by go_num, R.out⟩
              case measure => simp [intOf]; omega
        · obtain rfl : R = j := by omega
          have RR : Hid (OwnI 3 wr w.heap.size u10 (cols As R) ∧ Below w.heap.size w wr) := by
            have e := HHB.out
            rw [← e]; exact HQ.out
          go_wp2
          go_ret
          exact ⟨_, rfl, RR.out⟩
end Go.Proofs.YtpcnoiigbmiejaaGreatDoor.colsa
