/- slices.SortFunc and slices.BinarySearchFunc at a list of lists of numbers. -/
import Derived.Test.YtglehegjimhbjaaDoorCmp
import Derived.Lib.OwnBridge
import Derived.Lib.AppendIntMem
namespace Go.Proofs.YtglehegjimhbjaaDoor.cmp
set_option linter.unusedVariables false
set_option linter.unusedSimpArgs false
open Go.ChangeShapes Go.WideShapes Go.ChangeAt Go.RowKit Go.Sort
open Go.Proofs.YtglehegjimhbjaaDoor.lib Go.Proofs.YtglehegjimhbjaaDoor.sll Go.Proofs.YtglehegjimhbjaaDoor.colp Go.Proofs.YtglehegjimhbjaaDoor.less

theorem grown_sort {enc : Nat → Value} {w : World} {g m : Nat} {dk : Array Nat} {os : Array Obj} : w.grownBy (sortWorld enc w g 0 m dk os) (some g) := by
  refine ⟨rfl, rfl, rfl, ?_, fun k hk hne => ?_⟩
  · unfold sortWorld
    rw [size_grow, size_putRow]
    exact Nat.le_add_right _ _
  · have hne' : g ≠ k := fun e => hne (by rw [e])
    unfold sortWorld
    rw [heap_grow_old _ _ (by rw [size_putRow]; exact hk)]
    show ((Sort.ahead w m).heap.modify g _)[k]? = _
    rw [Array.getElem?_modify, if_neg hne']
    rfl
theorem below_sort {enc : Nat → Value} {w : World} {B g m : Nat} {dk : Array Nat} {os : Array Obj} (hB : B ≤ g) (hg : g < w.heap.size) : Below B w (sortWorld enc w g 0 m dk os) := by
  have h := grown_sort (enc := enc) (w := w) (g := g) (m := m) (dk := dk) (os := os)
  exact ⟨h.os, h.tape, h.output, h.size, fun k hk => h.block k (by omega) (fun e => by have := Option.some.inj e; omega)⟩
/-- the values by their numbers -/
def encU (us : List Value) (n : Nat) (i : Nat) : Value := us.getD (i % n) undef
theorem encU_map {us : List Value} {n : Nat} (hn : us.length = n) : (List.range n).map (encU us n) = us := by
  refine List.ext_getElem (by simp [hn]) fun i h1 h2 => ?_
  have hi : i < n := by simpa using h1
  rw [List.getElem_map, List.getElem_range, encU, Nat.mod_eq_of_lt hi, List.getD_eq_getElem?_getD, List.getElem?_eq_getElem h2]; rfl
/-- the lists by their numbers -/
def keyL (L : List (List Int)) (n : Nat) (i : Nat) : List Int := L.getD (i % n) []
theorem keyL_map {L : List (List Int)} {n : Nat} (hn : L.length = n) : (List.range n).map (keyL L n) = L := by
  refine List.ext_getElem (by simp [hn]) fun i h1 h2 => ?_
  have hi : i < n := by simpa using h1
  rw [List.getElem_map, List.getElem_range, keyL, Nat.mod_eq_of_lt hi, List.getD_eq_getElem?_getD, List.getElem?_eq_getElem h2]; rfl
theorem lt_key (L : List (List Int)) (n x y : Nat) : ltOf (fun x y => cmpL (keyL L n x) (keyL L n y)) x y = lessL (keyL L n x) (keyL L n y) := by
  rw [ltOf, cmpL_lt]
theorem swo_key (L : List (List Int)) (n : Nat) : SWO (ltOf (fun x y => cmpL (keyL L n x) (keyL L n y))) := by
  refine ⟨fun x => ?_, fun x y z h1 h2 => ?_, fun x y z h1 h2 => ?_⟩
  · rw [lt_key]; exact less_irr _
  · rw [lt_key] at h1 h2 ⊢; exact less_trans h1 h2
  · rw [lt_key] at h1 h2 ⊢
    cases h : lessL (keyL L n x) (keyL L n z) with
    | false => rfl
    | true =>
      cases h3 : lessL (keyL L n y) (keyL L n x) with
      | true => rw [less_trans h3 h] at h2; cases h2
      | false => rw [less_tri h1 h3] at h; rw [h] at h2; cases h2
theorem reads_sort {enc : Nat → Value} {w : World} {g m : Nat} {dk : Array Nat} {os : Array Obj} {u : Value} {l : List Int} (h : Reads w u l) (hne : u.ownBlock ≠ some g) : Reads (sortWorld enc w g 0 m dk os) u l :=
  reads_kept h grown_sort fun k hk => by have := Option.some.inj hk; subst this; exact hne
theorem sl_one {w : World} {u : Value} {l : List Int} (h : Reads w u l) : u.oneCell' = true := by
  obtain ⟨ao, cap, rfl, _⟩ := h; rfl

/-- what the sort is told -/
structure RowU (w : World) (B g n cap : Nat) (us : List Value) (L : List (List Int)) : Prop where
  n1 : 1 ≤ n
  hu : us.length = n
  hL : L.length = n
  own : w.ownsRow B 25 1 (.slice (some ⟨g, 0, none⟩) n cap) n us
  rd : ∀ i, i < n → L.getD i [] ≠ [] ∧ Reads w (us.getD i undef) (L.getD i []) ∧ (us.getD i undef).ownBlock ≠ some g
  sm : ∀ l, l ∈ L → l.length ≤ 1000
theorem RowU.of {w : World} {B g n cap : Nat} {L : List (List Int)} (h : OwnL w B (.slice (some ⟨g, 0, none⟩) n cap) L) (hn : L.length = n) (h1 : 1 ≤ n) (hs : ∀ l, l ∈ L → l.length ≤ 1000) : ∃ us, RowU w B g n cap us L := by
  obtain ⟨us, hl, ho, hr⟩ := h
  exact ⟨us, h1, by omega, hn, by rw [← show us.length = n by omega]; rw [show us.length = n by omega] at ho ⊢; exact ho, fun i hi => ⟨(hr i (by omega)).1, (hr i (by omega)).2.1, (hr i (by omega)).2.2 g rfl⟩, hs⟩
theorem RowU.key {w : World} {B g n cap : Nat} {us : List Value} {L : List (List Int)} (h : RowU w B g n cap us L) (x : Nat) : Reads w (encU us n x) (keyL L n x) ∧ (encU us n x).ownBlock ≠ some g ∧ (keyL L n x).length ≤ 1000 := by
  have hx : x % n < n := Nat.mod_lt _ h.n1
  refine ⟨(h.rd _ hx).2.1, (h.rd _ hx).2.2, h.sm _ ?_⟩
  unfold keyL
  rw [List.getD_eq_getElem?_getD, List.getElem?_eq_getElem (by rw [h.hL]; exact hx)]
  exact List.getElem_mem _
theorem RowU.cmp {w : World} {B g n cap : Nat} {us : List Value} {L : List (List Int)} (h : RowU w B g n cap us L) : CmpLays1 Tryd.prog 52 #[] (encU us n) (fun x y => cmpL (keyL L n x) (keyL L n y)) g 0 n w := by
  intro m os dk hs x y
  have hx := h.key x
  have hy := h.key y
  refine (compareS_any (encU us n x) (encU us n y) (keyL L n x) (keyL L n y) _ (reads_sort hx.1 hx.2.1) (reads_sort hy.1 hy.2.1) (by omega) (by omega)).mono ?_
  rintro e w' ⟨rfl, q, rfl⟩
  exact ⟨rfl, q, #[], by rw [grow_empty]⟩
theorem RowU.one {w : World} {B g n cap : Nat} {us : List Value} {L : List (List Int)} (h : RowU w B g n cap us L) : OneCell (encU us n) := fun x => sl_one (h.key x).1
theorem RowU.holds {w : World} {B g n cap : Nat} {us : List Value} {L : List (List Int)} (h : RowU w B g n cap us L) : Holds (encU us n) w g 0 (List.range n).toArray ∧ g < w.heap.size ∧ B ≤ g := by
  have ho : w.ownsRow B 25 1 (.slice (some ⟨g, 0, none⟩) n cap) n ((List.range n).map (encU us n)) := by rw [encU_map h.hu]; exact h.own
  obtain ⟨g', cap', hv, hb, hlt, -, -, -, hh⟩ := Go.Lib.holds_of_ownsRow (zs := List.range n) ho (by simp)
  simp only [Value.slice.injEq, Option.some.injEq, Addr.mk.injEq] at hv
  obtain ⟨⟨rfl, -⟩, -⟩ := hv
  exact ⟨hh, hlt, hb⟩

theorem RowU.put {w : World} {B g n cap : Nat} {us : List Value} {L : List (List Int)} (hR : RowU w B g n cap us L) (m : Nat) (d' : Array Nat) (os : Array Obj) (hz' : d'.size = n) : OwnL (sortWorld (encU us n) w g 0 m d' os) B (.slice (some ⟨g, 0, none⟩) n cap) (d'.toList.map (keyL L n)) := by
  have ho : w.ownsRow B 25 1 (.slice (some ⟨g, 0, none⟩) n cap) n ((List.range n).map (encU us n)) := by rw [encU_map hR.hu]; exact hR.own
  have h2 := Go.Lib.ownsRow_putRow (q := m) (ys := d'.toList) ho (by simpa using hz') (Nat.le_refl n)
  rw [List.take_of_length_le (by simp [hz'])] at h2
  have h3 := Go.Lib.ownsRow_grow h2 0 os
  refine ⟨d'.toList.map (encU us n), by simp, ?_, fun i hi => ?_⟩
  · rw [show (d'.toList.map (encU us n)).length = n by simp [hz']]
    exact h3
  · have hi' : i < d'.toList.length := by simpa using hi
    have e1 : (d'.toList.map (encU us n)).getD i undef = encU us n d'.toList[i] := by rw [List.getD_eq_getElem?_getD, List.getElem?_map, List.getElem?_eq_getElem hi']; rfl
    have e2 : (d'.toList.map (keyL L n)).getD i [] = keyL L n d'.toList[i] := by rw [List.getD_eq_getElem?_getD, List.getElem?_map, List.getElem?_eq_getElem hi']; rfl
    rw [e1, e2]
    have hk := hR.key d'.toList[i]
    refine ⟨(hR.rd _ (Nat.mod_lt _ hR.n1)).1, reads_sort hk.1 hk.2.1, fun k hk2 => ?_⟩
    have : g = k := Option.some.inj hk2
    subst this; exact hk.2.1
theorem sortF_any (w : World) (B g n cap : Nat) (L : List (List Int)) (h : OwnL w B (.slice (some ⟨g, 0, none⟩) n cap) L) (hn : L.length = n) (h1 : 1 ≤ n) (hn1 : n ≤ 1000) (hs : ∀ l, l ∈ L → l.length ≤ 1000) :
    Calls Tryd.prog 51 #[.slice (some ⟨g, 0, none⟩) n cap, .func (.func 52) #[] #[]] w fun e w' =>
      e = .returned (.tuple #[]) ∧ ∃ M, M.Perm L ∧ M.Pairwise (fun x y => lessL y x = false) ∧ OwnL w' B (.slice (some ⟨g, 0, none⟩) n cap) M ∧ Below B w w' := by
  obtain ⟨us, hR⟩ := RowU.of h hn h1 hs
  obtain ⟨hh, hg, hB⟩ := hR.holds
  have hc := Any.slices_SortFunc Tryd.sortF (encU us n) hR.one (fun x y => cmpL (keyL L n x) (keyL L n y)) (swo_key L n) 52 #[] g 0 cap (List.range n).toArray w
    (enters_of Tryd.func52 (by kernel_rfl) rfl) (by rw [show (List.range n).toArray.size = n by simp]; exact hR.cmp) hh hg (by simp; omega)
  rw [show (List.range n).toArray.size = n by simp] at hc
  refine Calls.mono hc ?_
  rintro e w' ⟨rfl, d', m, os, ⟨hz, -, hp⟩, hso, rfl⟩
  have hz' : d'.size = n := by rw [hz]; simp
  have hp' : d'.toList.Perm (List.range n) := by
    have e1 : (d'.extract 0 n).toList = d'.toList := by simp; rw [List.take_of_length_le (by simp [hz'])]
    have e2 : ((List.range n).toArray.extract 0 n).toList = List.range n := by simp
    rw [e1, e2] at hp; exact hp
  refine ⟨rfl, d'.toList.map (keyL L n), ?_, ?_, ?_, below_sort hB hg⟩
  · have := hp'.map (keyL L n)
    rw [keyL_map hn] at this; exact this
  · rw [List.pairwise_map, List.pairwise_iff_getElem]
    intro i j hi hj hij
    have hi' : i < d'.size := by simpa using hi
    have hj' : j < d'.size := by simpa using hj
    have := hso i j (Nat.zero_le _) hij (by omega)
    rw [lt_key, getElem!_pos d' i hi', getElem!_pos d' j hj'] at this
    simpa using this
  · exact hR.put m d' os hz'

/-- how many come before -/
theorem count_num {M : List (List Int)} (hM : M.Nodup) (d : List Int) : M.countP (fun x => lessL x d) = num M d := by
  unfold num
  rw [List.countP_eq_length_filter]
  refine len_eq_of_same (hM.sublist List.filter_sublist) (seen_nodup _ _) fun x => ?_
  rw [List.mem_filter, mem_seen]

theorem search_any (w : World) (B g n cap : Nat) (M : List (List Int)) (v : Value) (d : List Int) (h : OwnL w B (.slice (some ⟨g, 0, none⟩) n cap) M) (hn : M.length = n) (h1 : 1 ≤ n) (hn1 : n ≤ 1000) (hs : ∀ l, l ∈ M → l.length ≤ 1000)
    (hM : M.Pairwise fun a b => lessL a b = true) (hv : Reads w v d) (hvg : v.ownBlock ≠ some g) (hd : d.length ≤ 1000) :
    Calls Tryd.prog 54 #[.slice (some ⟨g, 0, none⟩) n cap, v, .func (.func 52) #[] #[]] w fun e w' =>
      ∃ b, e = .returned (.tuple #[.int .i64 (num M d : Nat), .bool b]) ∧ Below w.heap.size w w' := by
  obtain ⟨us, hR⟩ := RowU.of h hn h1 hs
  obtain ⟨hh, hg, hB⟩ := hR.holds
  have hmap : (List.range n).map (keyL M n) = M := keyL_map hn
  have hcmp : CmpLaysT Tryd.prog 52 #[] (encU us n) v (fun x => cmpL (keyL M n x) d) g 0 n w := by
    intro m os dk hs x
    have hx := hR.key x
    refine (compareS_any (encU us n x) v (keyL M n x) d _ (reads_sort hx.1 hx.2.1) (reads_sort hv hvg) (by omega) (by omega)).mono ?_
    rintro e w' ⟨rfl, q, rfl⟩
    exact ⟨rfl, q, #[], by rw [grow_empty]⟩
  have hlt : ∀ i j, i < j → j < n → lessL (keyL M n i) (keyL M n j) = true := fun i j hij hj => by
    have := List.pairwise_iff_getElem.1 hM i j (by omega) (by omega) hij
    unfold keyL
    rw [Nat.mod_eq_of_lt hj, Nat.mod_eq_of_lt (by omega), List.getD_eq_getElem?_getD, List.getD_eq_getElem?_getD, List.getElem?_eq_getElem (by omega), List.getElem?_eq_getElem (by omega)]
    exact this
  have hc := Any.slices_BinarySearchFunc Tryd.searchF (encU us n) hR.one v (fun x => cmpL (keyL M n x) d) 52 #[] g 0 cap (List.range n).toArray w
    (enters_of Tryd.func52 (by kernel_rfl) rfl) (by rw [show (List.range n).toArray.size = n by simp]; exact hcmp) hh hg (by simp; omega) (fun a b hab hb hc => by
      have hb' : b < n := by simpa using hb
      have e : ∀ i, i < n → (List.range n).toArray[i]! = i := fun i hi => by rw [getElem!_pos _ i (by simpa using hi)]; simp
      rw [e b hb'] at hc
      rw [e a (by omega)]
      have h2 : lessL (keyL M n b) d = true := by rw [← cmpL_lt]; exact decide_eq_true hc
      have h3 : lessL (keyL M n a) d = true := by
        by_cases hab' : a = b
        · subst hab'; exact h2
        · exact less_trans (hlt a b (by omega) hb') h2
      rw [← cmpL_lt] at h3
      exact of_decide_eq_true h3)
  rw [show (List.range n).toArray.size = n by simp] at hc
  have hcnt : (List.range n).toArray.toList.countP (fun x => decide (cmpL (keyL M n x) d < 0)) = num M d := by
    rw [← count_num (hM.imp fun {a b} hab e => by subst e; rw [less_irr] at hab; cases hab) d]
    conv => rhs; rw [← hmap]
    rw [List.countP_map]
    refine List.countP_congr fun x _ => ?_
    rw [cmpL_lt]; rfl
  rw [hcnt] at hc
  refine Calls.mono hc ?_
  rintro e w' ⟨rfl, m, os, rfl⟩
  refine ⟨_, rfl, ?_⟩
  unfold sortWorld
  rw [putRow_self _ _ _ _ _ (holds_ahead _ _ _ _ _ _ hh)]
  exact Go.Lib.below_grow _ _ (Nat.le_refl _) m os
end Go.Proofs.YtglehegjimhbjaaDoor.cmp
