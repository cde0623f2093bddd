/- Several texts in one: ColQ, ColI, CwC. -/
import Derived.Test.YtpcnoiigbmiejaaGreatDoorPkB
import Derived.Test.YtpcnoiigbmiejaaGreatDoorPk3
import Derived.Test.YtpcnoiigbmiejaaGreatDoorPkC
import Derived.Test.YtpcnoiigbmiejaaGreatDoorPk1
import Derived.Test.YtpcnoiigbmiejaaGreatDoorPk4
/- Laws of refinement: it stops, two structures' colours are those of each, and it does not see names. Plain words, no program in sight. -/
namespace Go.Proofs.YtpcnoiigbmiejaaGreatDoor.colq
set_option linter.unusedVariables false
set_option linter.unusedSimpArgs false
open Go.Proofs.YtpcnoiigbmiejaaGreatDoor.base Go.Proofs.YtpcnoiigbmiejaaGreatDoor.col Go.Proofs.YtpcnoiigbmiejaaGreatDoor.colp Go.Proofs.YtpcnoiigbmiejaaGreatDoor.both

theorem mem_getD {l : List Int} {x : Int} (h : x ∈ l) : ∃ i, i < l.length ∧ l.getD i 0 = x := by
  obtain ⟨i, hi, e⟩ := List.getElem_of_mem h
  exact ⟨i, hi, by rw [List.getD_eq_getElem?_getD, List.getElem?_eq_getElem hi]; exact e⟩
theorem getD_mem {l : List Int} {i : Nat} (h : i < l.length) : l.getD i 0 ∈ l := by
  rw [List.getD_eq_getElem?_getD, List.getElem?_eq_getElem h]; exact List.getElem_mem h
theorem getD_mapI {l : List Int} {g : Int → Int} {i : Nat} (h : i < l.length) : (l.map g).getD i 0 = g (l.getD i 0) := by
  simp [List.getD_eq_getElem?_getD, h]
theorem ext_getD {l m : List Int} (h : l.length = m.length) (he : ∀ i, i < l.length → l.getD i 0 = m.getD i 0) : l = m := by
  apply List.ext_getElem h
  intro i h1 h2
  have := he i h1
  rw [List.getD_eq_getElem?_getD, List.getElem?_eq_getElem h1, List.getD_eq_getElem?_getD, List.getElem?_eq_getElem h2] at this
  exact this
theorem idx_at {l : List Int} {v : Int} (h : v ∈ l) : l.getD (l.idxOf v) 0 = v := by
  rw [List.getD_eq_getElem?_getD, List.getElem?_eq_getElem (List.idxOf_lt_length_of_mem h), Option.getD_some, List.getElem_idxOf]
theorem less_head {a b : Int} {l m : List Int} (h : a < b) : lessL (a :: l) (b :: m) = true := by
  rw [lessL, if_neg (by omega)]; exact decide_eq_true h
theorem nums_lt? {L : List (List Int)} {i j : Nat} {d e : List Int} (hi : L[i]? = some d) (hj : L[j]? = some e) : (nums L).getD i 0 < (nums L).getD j 0 ↔ lessL d e = true := by
  obtain ⟨li, rfl⟩ := List.getElem?_eq_some_iff.1 hi
  obtain ⟨lj, rfl⟩ := List.getElem?_eq_some_iff.1 hj
  exact nums_lt li lj
/-- a smaller colour stays smaller -/
theorem cols_mono {As : List St} {k i j : Nat} (hi : i < total As) (hj : j < total As) (h : (cols As k).getD i 0 < (cols As k).getD j 0) : (cols As (k + 1)).getD i 0 < (cols As (k + 1)).getD j 0 := by
  obtain ⟨t, ht⟩ := nexts_head As (cols As k) (cols_len As k) hi
  obtain ⟨u, hu⟩ := nexts_head As (cols As k) (cols_len As k) hj
  exact (nums_lt? ht hu).2 (less_head h)
/-- numbers that are moved onto themselves in order stay where they are -/
theorem mono_onto {m : Int} {f : Int → Int} (hm : ∀ x y, 0 ≤ x → x < m → 0 ≤ y → y < m → x ≤ y → f x ≤ f y) (ho : ∀ y, 0 ≤ y → y < m → ∃ x, 0 ≤ x ∧ x < m ∧ f x = y) : ∀ x, 0 ≤ x → x < m → f x = x := by
  have up : ∀ n : Nat, (n : Int) < m → f n ≤ n := by
    intro n
    induction n with
    | zero =>
      intro h
      obtain ⟨x, h0, h1, e⟩ := ho ((0 : Nat) : Int) (by omega) h
      have := hm ((0 : Nat) : Int) x (by omega) h h0 h1 (by omega)
      omega
    | succ n ih =>
      intro h
      have ih := ih (by omega)
      obtain ⟨x, h0, h1, e⟩ := ho ((n + 1 : Nat) : Int) (by omega) h
      by_cases hx : x ≤ n
      · have := hm x n h0 h1 (by omega) (by omega) hx; omega
      · have := hm ((n + 1 : Nat) : Int) x (by omega) h h0 h1 (by omega); omega
  have down : ∀ d : Nat, (d : Int) < m → m - 1 - d ≤ f (m - 1 - d) := by
    intro d
    induction d with
    | zero =>
      intro h
      obtain ⟨x, h0, h1, e⟩ := ho (m - 1 - ((0 : Nat) : Int)) (by omega) (by omega)
      have := hm x (m - 1 - ((0 : Nat) : Int)) h0 h1 (by omega) (by omega) (by omega)
      omega
    | succ d ih =>
      intro h
      have ih := ih (by omega)
      obtain ⟨x, h0, h1, e⟩ := ho (m - 1 - ((d + 1 : Nat) : Int)) (by omega) (by omega)
      by_cases hx : m - 1 - d ≤ x
      · have := hm (m - 1 - d) x (by omega) (by omega) h0 h1 hx; omega
      · have := hm x (m - 1 - ((d + 1 : Nat) : Int)) h0 h1 (by omega) (by omega) (by omega); omega
  intro x h0 h1
  have a := up x.toNat (by omega)
  have b := down (m - 1 - x).toNat (by omega)
  rw [show ((x.toNat : Nat) : Int) = x by omega] at a
  rw [show m - 1 - (((m - 1 - x).toNat : Nat) : Int) = x by omega] at b
  omega
/-- two lists that number their places in the same order, without gaps, are equal -/
theorem same_numbers {c C : List Int} {m : Int} (hl : c.length = C.length) (hc : ∀ x, x ∈ c ↔ 0 ≤ x ∧ x < m) (hC : ∀ x, x ∈ C ↔ 0 ≤ x ∧ x < m) (hg : ∀ i j, i < C.length → j < C.length → c.getD i 0 < c.getD j 0 → C.getD i 0 < C.getD j 0) : C = c := by
  have hf : ∀ i v, i < C.length → C.getD i 0 = v → c.getD (C.idxOf v) 0 = c.getD i 0 := by
    intro i v hi hv
    have hm : v ∈ C := by rw [← hv]; exact getD_mem hi
    have hlt := List.idxOf_lt_length_of_mem hm
    have e := idx_at hm
    by_cases h : c.getD (C.idxOf v) 0 < c.getD i 0
    · have := hg _ _ hlt hi h; omega
    · by_cases h2 : c.getD i 0 < c.getD (C.idxOf v) 0
      · have := hg _ _ hi hlt h2; omega
      · omega
  have id := mono_onto (m := m) (f := fun v => c.getD (C.idxOf v) 0) (fun x y x0 x1 y0 y1 hxy => by
    obtain ⟨i, hi, ei⟩ := mem_getD ((hC x).2 ⟨x0, x1⟩)
    obtain ⟨j, hj, ej⟩ := mem_getD ((hC y).2 ⟨y0, y1⟩)
    show c.getD (C.idxOf x) 0 ≤ c.getD (C.idxOf y) 0
    rw [hf i x hi ei, hf j y hj ej]
    by_cases h : c.getD j 0 < c.getD i 0
    · have := hg j i hj hi h; omega
    · omega) (fun y y0 y1 => by
    obtain ⟨i, hi, ei⟩ := mem_getD ((hc y).2 ⟨y0, y1⟩)
    have hm := (hC (C.getD i 0)).1 (getD_mem (by omega))
    exact ⟨C.getD i 0, hm.1, hm.2, (hf i _ (by omega) rfl).trans ei⟩)
  refine ext_getD hl.symm fun i hi => ?_
  have hm := (hC (C.getD i 0)).1 (getD_mem hi)
  exact (id _ hm.1 hm.2).symm.trans (hf i _ hi rfl)
/-- as many colours as before: the same ones -/
theorem cols_stop {As : List St} {k : Nat} (h : 0 < total As) (e : most (cols As k) = most (cols As (k + 1))) : cols As (k + 1) = cols As k := by
  refine same_numbers (m := most (cols As k)) (by rw [cols_len, cols_len]) (fun x => cols_all h k) (fun x => by rw [e]; exact cols_all h (k + 1)) fun i j hi hj hc => ?_
  rw [cols_len] at hi hj
  exact cols_mono hi hj hc
theorem cols_stay {As : List St} {k : Nat} (h : cols As (k + 1) = cols As k) : ∀ j, cols As (k + j) = cols As k
  | 0 => rfl
  | j + 1 => by
    have ih := cols_stay h j
    show nums (nexts As (cols As (k + j))) = cols As k
    rw [ih]; exact h

/-! the same order -/
def OrdEq (p q : List Int) : Prop := p.length = q.length ∧ ∀ i j, i < p.length → j < p.length → (p.getD i 0 < p.getD j 0 ↔ q.getD i 0 < q.getD j 0)
theorem OrdEq.eq {p q : List Int} (h : OrdEq p q) {i j : Nat} (hi : i < p.length) (hj : j < p.length) : p.getD i 0 = p.getD j 0 ↔ q.getD i 0 = q.getD j 0 := by
  have h1 := h.2 i j hi hj
  have h2 := h.2 j i hj hi
  omega
theorem OrdEq.map {p q : List Int} (h : OrdEq p q) : ∃ f : Int → Int, q = p.map f ∧ ∀ x y, x ∈ p → y ∈ p → (x < y ↔ f x < f y) := by
  have hf : ∀ i v, i < p.length → p.getD i 0 = v → q.getD (p.idxOf v) 0 = q.getD i 0 := by
    intro i v hi hv
    have hm : v ∈ p := by rw [← hv]; exact getD_mem hi
    exact (h.eq (List.idxOf_lt_length_of_mem hm) hi).1 ((idx_at hm).trans hv.symm)
  refine ⟨fun v => q.getD (p.idxOf v) 0, ?_, fun x y hx hy => ?_⟩
  · refine ext_getD (by rw [List.length_map]; exact h.1.symm) fun i hi => ?_
    have hi : i < p.length := by have := h.1; omega
    rw [getD_mapI hi]
    exact (hf i _ hi rfl).symm
  · obtain ⟨i, hi, ei⟩ := mem_getD hx
    obtain ⟨j, hj, ej⟩ := mem_getD hy
    show _ ↔ q.getD (p.idxOf x) 0 < q.getD (p.idxOf y) 0
    rw [hf i x hi ei, hf j y hj ej, ← h.2 i j hi hj, ei, ej]
section
variable {f : Int → Int} {P : Int → Prop} (hf : ∀ x y, P x → P y → (x < y ↔ f x < f y))
include hf
end
theorem take_get {l : List Int} {i k : Nat} (h : i < k) : (l.take k).getD i 0 = l.getD i 0 := by
  simp [List.getD_eq_getElem?_getD, List.getElem?_take, h]
theorem drop_get (l : List Int) (i k : Nat) : (l.drop k).getD i 0 = l.getD (k + i) 0 := by
  simp [List.getD_eq_getElem?_getD, List.getElem?_drop]
theorem two_getA {a b : St} {c : List Int} {i : Nat} (hi : i < a.n) : (nexts [a, b] c)[i]? = some (desc a (c.take a.n) i) := by
  rw [nexts, List.getElem?_append_left (by simpa using hi), List.getElem?_map, List.getElem?_range hi]; rfl
theorem two_getB {a b : St} {c : List Int} {i : Nat} (hi : i < b.n) (hc : c.length = a.n + b.n) : (nexts [a, b] c)[a.n + i]? = some (desc b (c.drop a.n) i) := by
  rw [nexts, List.getElem?_append_right (by simp), nexts, nexts, List.append_nil, List.length_map, List.length_range, Nat.add_sub_cancel_left, List.getElem?_map, List.getElem?_range hi, List.take_of_length_le (by rw [List.length_drop]; omega)]; rfl
theorem f_twoA {a b : St} {i : Nat} (hi : i < a.n) : (firsts [a, b])[i]? = some (d0 a i) := by
  rw [firsts, List.getElem?_append_left (by simpa using hi), List.getElem?_map, List.getElem?_range hi]; rfl
theorem f_twoB {a b : St} {i : Nat} (hi : i < b.n) : (firsts [a, b])[a.n + i]? = some (d0 b i) := by
  rw [firsts, List.getElem?_append_right (by simp), firsts, firsts, List.append_nil, List.length_map, List.length_range, Nat.add_sub_cancel_left, List.getElem?_map, List.getElem?_range hi]; rfl
theorem two_len (a b : St) (k : Nat) : (cols [a, b] k).length = a.n + b.n := by rw [cols_len]; simp [total]
theorem colA_get {a b : St} {k i : Nat} (hi : i < a.n) : (colA a b k).getD i 0 = (cols [a, b] k).getD i 0 := take_get hi
theorem colB_get (a b : St) (k i : Nat) : (colB a b k).getD i 0 = (cols [a, b] k).getD (a.n + i) 0 := drop_get _ _ _
theorem colA_length (a b : St) (k : Nat) : (colA a b k).length = a.n := by
  show ((cols [a, b] k).take a.n).length = a.n
  rw [List.length_take, two_len]; omega
theorem colB_length (a b : St) (k : Nat) : (colB a b k).length = b.n := by
  show ((cols [a, b] k).drop a.n).length = b.n
  rw [List.length_drop, two_len]; omega
section
open Go.Proofs.YtpcnoiigbmiejaaGreatDoor.fits
variable {n : Nat} {sa ra sb rb : ByteArray} {o : List Nat} (h : Iso n sa ra sb rb o)
include h
end
end Go.Proofs.YtpcnoiigbmiejaaGreatDoor.colq

/- ColoursOf and ColourCounts of the program. -/
namespace Go.Proofs.YtpcnoiigbmiejaaGreatDoor.coli
set_option linter.unusedVariables false
set_option linter.unusedSimpArgs false
open Go.ChangeShapes Go.WideShapes Go.ChangeAt Go.RowKit
open Go.Proofs.YtpcnoiigbmiejaaGreatDoor.lib Go.Proofs.YtpcnoiigbmiejaaGreatDoor.st Go.Proofs.YtpcnoiigbmiejaaGreatDoor.base Go.Proofs.YtpcnoiigbmiejaaGreatDoor.col Go.Proofs.YtpcnoiigbmiejaaGreatDoor.colp Go.Proofs.YtpcnoiigbmiejaaGreatDoor.sll Go.Proofs.YtpcnoiigbmiejaaGreatDoor.both Go.Proofs.YtpcnoiigbmiejaaGreatDoor.cmp Go.Proofs.YtpcnoiigbmiejaaGreatDoor.less Go.Proofs.YtpcnoiigbmiejaaGreatDoor.specc Go.Proofs.YtpcnoiigbmiejaaGreatDoor.specd Go.Proofs.YtpcnoiigbmiejaaGreatDoor.colsa Go.Proofs.YtpcnoiigbmiejaaGreatDoor.flow Go.Proofs.YtpcnoiigbmiejaaGreatDoor.descr

theorem strs_two {w : World} {H N M : Nat} {s r t q : ByteArray} (hH : w.heap.size = H) (hf : Fit ⟨N, s, r⟩) (hf2 : Fit ⟨M, t, q⟩) : Strs (w.alloc (.cells #[.int .i64 N, .string s, .string r, .int .i64 M, .string t, .string q] 24)) H [⟨N, s, r⟩, ⟨M, t, q⟩] := by
  subst hH
  have hc : ∀ j u, (#[Value.int .i64 N, .string s, .string r, .int .i64 M, .string t, .string q] : Array Value)[j]? = some u → (w.alloc (.cells #[.int .i64 N, .string s, .string r, .int .i64 M, .string t, .string q] 24)).cell? ⟨w.heap.size, j, none⟩ = some u := fun j u hj => by
    rw [cell_of_row _ _ j _ _ (0, 0) (heap_alloc_new w _)]; exact hj
  refine ⟨by simp, fun i a hi => ?_, fun a ha => ?_⟩
  · match i, hi with
    | 0, hi => simp only [List.getElem?_cons_zero, Option.some.injEq] at hi; subst hi; exact ⟨hc 0 _ rfl, hc 1 _ rfl, hc 2 _ rfl⟩
    | 1, hi => simp only [List.getElem?_cons_succ, List.getElem?_cons_zero, Option.some.injEq] at hi; subst hi; exact ⟨hc 3 _ rfl, hc 4 _ rfl, hc 5 _ rfl⟩
    | i + 2, hi => simp at hi
  · rcases List.mem_cons.1 ha with rfl | ha
    · exact hf
    · rw [List.mem_singleton.1 ha]; exact hf2
theorem after_two (w : World) (H N M R : Nat) (s r t q : ByteArray) (hH : w.heap.size = H) (hf : Fit ⟨N, s, r⟩) (hf2 : Fit ⟨M, t, q⟩) (hR : R ≤ 100) :
    Calls Tryz.prog 47 #[.slice (some ⟨H, 0, none⟩) 2 2, .int .i64 R] (w.alloc (.cells #[.int .i64 N, .string s, .string r, .int .i64 M, .string t, .string q] 24)) fun e w' => ∃ u, e = .returned u ∧ OwnI 3 w' w.heap.size u (cols [⟨N, s, r⟩, ⟨M, t, q⟩] R) ∧ Below w.heap.size w w' := by
  have AL : Below w.heap.size w (w.alloc (.cells #[.int .i64 N, .string s, .string r, .int .i64 M, .string t, .string q] 24)) := (Below.refl _ _).alloc (Nat.le_refl _) _
  refine (after_any _ H 2 R [⟨N, s, r⟩, ⟨M, t, q⟩] (strs_two hH hf hf2) rfl (by omega) (Nat.le_refl _) hR).mono ?_
  rintro e w' ⟨u, he, ho, hb⟩
  exact ⟨u, he, ho.mono AL.size, AL.trans (hb.mono AL.size)⟩

end Go.Proofs.YtpcnoiigbmiejaaGreatDoor.coli

/- Colours and counting games with two pebbles. No program in sight. -/
namespace Go.Proofs.YtpcnoiigbmiejaaGreatDoor.peb
set_option linter.unusedVariables false
set_option linter.unusedSimpArgs false
open Go.Proofs.YtpcnoiigbmiejaaGreatDoor.game Go.Proofs.YtpcnoiigbmiejaaGreatDoor.col Go.Proofs.YtpcnoiigbmiejaaGreatDoor.colp Go.Proofs.YtpcnoiigbmiejaaGreatDoor.both Go.Proofs.YtpcnoiigbmiejaaGreatDoor.colq Go.Proofs.YtpcnoiigbmiejaaGreatDoor.base

abbrev grS (a : St) : Gr := gob.gr a.n a.s a.r
/-- elements of the first and of the second structure have the same colour after so many rounds -/
def Rc (a b : St) (k x y : Nat) : Prop := (colA a b k).getD x 0 = (colB a b k).getD y 0
theorem kind_lt (a : St) (x y : Nat) : kindOf a x y < 4 := by
  unfold kindOf n01
  split <;> split <;> omega
theorem kind_iff {a b : St} {x z y u : Nat} : kindOf a x z = kindOf b y u ↔ bitAt a.r (x * a.n + z) = bitAt b.r (y * b.n + u) ∧ bitAt a.r (z * a.n + x) = bitAt b.r (u * b.n + y) := by
  unfold kindOf n01
  cases bitAt a.r (x * a.n + z) <;> cases bitAt b.r (y * b.n + u) <;> cases bitAt a.r (z * a.n + x) <;> cases bitAt b.r (u * b.n + y) <;> simp
theorem d0_iff {a b : St} {x y : Nat} : d0 a x = d0 b y ↔ bitAt a.s x = bitAt b.s y ∧ bitAt a.r (x * a.n + x) = bitAt b.r (y * b.n + y) := by
  unfold d0 n01
  cases bitAt a.s x <;> cases bitAt b.s y <;> cases bitAt a.r (x * a.n + x) <;> cases bitAt b.r (y * b.n + y) <;> simp
/-- an element seen from another one: whether it is that one, else how they are related, and its colour -/
def key (a : St) (c : List Int) (x z : Nat) : Nat × Int := if z = x then (4, c.getD x 0) else (kindOf a x z, c.getD z 0)
theorem count_way (a : St) (c : List Int) (x j : Nat) (v : Int) (hj : j < 4) : ((List.range a.n).map (key a c x)).count (j, v) = (way a c x j a.n).count v := by
  unfold way List.count
  rw [List.countP_map, List.countP_map, List.countP_filter]
  refine List.countP_congr fun z _ => ?_
  simp only [Function.comp, Bool.and_eq_true, beq_iff_eq, bne_iff_ne, key]
  by_cases h : z = x
  · subst h
    rw [if_pos rfl]
    constructor
    · intro e; have := congrArg Prod.fst e; simp at this; omega
    · rintro ⟨_, h, _⟩; exact absurd rfl h
  · rw [if_neg h, Prod.mk.injEq]
    constructor
    · rintro ⟨h1, h2⟩; exact ⟨h2, h, h1⟩
    · rintro ⟨h1, _, h2⟩; exact ⟨h2, h1⟩
theorem count_self (a : St) (c : List Int) (x : Nat) (v : Int) (hx : x < a.n) : ((List.range a.n).map (key a c x)).count (4, v) = if c.getD x 0 = v then 1 else 0 := by
  unfold List.count
  rw [List.countP_map]
  have e : List.countP ((fun y => y == (4, v)) ∘ key a c x) (List.range a.n) = List.countP (fun z => z == x && decide (c.getD x 0 = v)) (List.range a.n) := by
    refine List.countP_congr fun z _ => ?_
    simp only [Function.comp, beq_iff_eq, key, Bool.and_eq_true, decide_eq_true_eq]
    by_cases h : z = x
    · subst h; rw [if_pos rfl, Prod.mk.injEq]; simp
    · rw [if_neg h, Prod.mk.injEq]
      constructor
      · rintro ⟨h1, _⟩; have := kind_lt a x z; omega
      · rintro ⟨h1, _⟩; exact absurd h1 h
  rw [e]
  by_cases h : c.getD x 0 = v
  · rw [if_pos h]
    simp only [h, decide_true, Bool.and_true]
    have := (List.nodup_range (n := a.n)).count (a := x)
    rw [if_pos (List.mem_range.2 hx)] at this
    exact this
  · rw [if_neg h, List.countP_eq_zero]
    intro z _
    rw [decide_eq_false h, Bool.and_false]
    exact Bool.false_ne_true
theorem count_none (a : St) (c : List Int) (x j : Nat) (v : Int) (hj : 4 < j) : ((List.range a.n).map (key a c x)).count (j, v) = 0 := by
  rw [List.count_eq_zero]
  intro h
  obtain ⟨z, _, e⟩ := List.mem_map.1 h
  unfold key at e
  have := congrArg Prod.fst e
  split at this
  · simp at this; omega
  · have := kind_lt a x z; simp at *; omega
theorem keys_iff {a b : St} {c d : List Int} {x y : Nat} (hx : x < a.n) (hy : y < b.n) : ((List.range a.n).map (key a c x)).Perm ((List.range b.n).map (key b d y)) ↔ c.getD x 0 = d.getD y 0 ∧ ∀ j, j < 4 → (way a c x j a.n).Perm (way b d y j b.n) := by
  rw [List.perm_iff_count]
  constructor
  · intro h
    refine ⟨?_, fun j hj => List.perm_iff_count.2 fun v => ?_⟩
    · have := h (4, c.getD x 0)
      rw [count_self a c x _ hx, count_self b d y _ hy, if_pos rfl] at this
      by_cases e : d.getD y 0 = c.getD x 0
      · exact e.symm
      · rw [if_neg e] at this; omega
    · rw [← count_way a c x j v hj, ← count_way b d y j v hj]; exact h _
  · rintro ⟨h1, h2⟩ ⟨j, v⟩
    by_cases hj : j < 4
    · rw [count_way a c x j v hj, count_way b d y j v hj]; exact (h2 j hj).count_eq v
    · by_cases h4 : j = 4
      · subst h4; rw [count_self a c x v hx, count_self b d y v hy, h1]
      · rw [count_none a c x j v (by omega), count_none b d y j v (by omega)]
theorem blocks_iff {f g : Nat → List Int} : ∀ n, (List.range n).flatMap (fun j => wayOut (f j)) = (List.range n).flatMap (fun j => wayOut (g j)) → (∀ j, j < n → (f j).Perm (g j)) := by
  have key : ∀ (L : List Nat), L.flatMap (fun j => wayOut (f j)) = L.flatMap (fun j => wayOut (g j)) → ∀ j, j ∈ L → (f j).Perm (g j) := fun L => by
    induction L with
    | nil => intro _ j hj; cases hj
    | cons a L ih =>
      intro h j hj
      rw [List.flatMap_cons, List.flatMap_cons] at h
      unfold wayOut at h
      rw [List.cons_append, List.cons_append] at h
      have hl : ((f a).length : Int) = ((g a).length : Int) := (List.cons.inj h).1
      obtain ⟨h1, h2⟩ := List.append_inj (List.cons.inj h).2 (by rw [sortI_len, sortI_len]; omega)
      rcases List.mem_cons.1 hj with rfl | hj
      · exact sortI_eq_iff.1 h1
      · exact ih h2 j hj
  exact fun n h j hj => key _ h j (List.mem_range.2 hj)
theorem desc_iff {a b : St} {c d : List Int} {x y : Nat} : desc a c x = desc b d y ↔ c.getD x 0 = d.getD y 0 ∧ ∀ j, j < 4 → (way a c x j a.n).Perm (way b d y j b.n) := by
  unfold desc descTo
  rw [List.cons.injEq]
  constructor
  · rintro ⟨h1, h2⟩; exact ⟨h1, blocks_iff 4 h2⟩
  · rintro ⟨h1, h2⟩
    refine ⟨h1, ?_⟩
    rw [List.flatMap_def, List.flatMap_def]
    congr 1
    refine List.map_congr_left fun j hj => ?_
    have := h2 j (List.mem_range.1 hj)
    unfold wayOut
    rw [this.length_eq, sortI_congr this]
theorem desc_bij {a b : St} {c d : List Int} {x y : Nat} (hx : x < a.n) (hy : y < b.n) : desc a c x = desc b d y ↔ ∃ f g, Bij a.n b.n f g ∧ f x = y ∧ c.getD x 0 = d.getD y 0 ∧ ∀ z, z < a.n → z ≠ x → kindOf a x z = kindOf b y (f z) ∧ c.getD z 0 = d.getD (f z) 0 := by
  rw [desc_iff, ← keys_iff hx hy, keys_bij]
  constructor
  · rintro ⟨f, g, hb, hk⟩
    have hf : f x = y := by
      have := hk x hx
      unfold key at this
      rw [if_pos rfl] at this
      refine Classical.byContradiction fun hn => ?_
      rw [if_neg hn] at this
      have h4 := congrArg Prod.fst this
      have := kind_lt b y (f x)
      simp at h4; omega
    have hc : c.getD x 0 = d.getD y 0 := by
      have := hk x hx
      unfold key at this
      rw [if_pos rfl, if_pos hf] at this
      exact congrArg Prod.snd this
    refine ⟨f, g, hb, hf, hc, fun z hz hn => ?_⟩
    have hfz : f z ≠ y := fun e => hn (by rw [← (hb.1 z hz).2, e, ← hf, (hb.1 x hx).2])
    have := hk z hz
    unfold key at this
    rw [if_neg hn, if_neg hfz] at this
    exact ⟨congrArg Prod.fst this, congrArg Prod.snd this⟩
  · rintro ⟨f, g, hb, hf, hc, h⟩
    refine ⟨f, g, hb, fun z hz => ?_⟩
    unfold key
    by_cases hn : z = x
    · subst hn; rw [if_pos rfl, if_pos hf, hc]
    · have hfz : f z ≠ y := fun e => hn (by rw [← (hb.1 z hz).2, e, ← hf, (hb.1 x hx).2])
      obtain ⟨h1, h2⟩ := h z hz hn
      rw [if_neg hn, if_neg hfz, h1, h2]
section
variable {a b : St}
theorem nums_eq' {L : List (List Int)} {i j : Nat} {d e : List Int} (hi : L[i]? = some d) (hj : L[j]? = some e) : (nums L).getD i 0 = (nums L).getD j 0 ↔ d = e := by
  obtain ⟨h1, e1⟩ := List.getElem?_eq_some_iff.1 hi
  obtain ⟨h2, e2⟩ := List.getElem?_eq_some_iff.1 hj
  rw [nums_eq h1 h2, e1, e2]
theorem rc_zero {x y : Nat} (hx : x < a.n) (hy : y < b.n) : Rc a b 0 x y ↔ d0 a x = d0 b y := by
  unfold Rc
  rw [colA_get hx, colB_get]
  exact nums_eq' (f_twoA hx) (f_twoB hy)
theorem rc_succ {k x y : Nat} (hx : x < a.n) (hy : y < b.n) : Rc a b (k + 1) x y ↔ desc a (colA a b k) x = desc b (colB a b k) y := by
  unfold Rc
  rw [colA_get hx, colB_get]
  exact nums_eq' (two_getA hx) (two_getB hy (two_len a b k))
theorem rc_step {k x y : Nat} (hx : x < a.n) (hy : y < b.n) : Rc a b (k + 1) x y ↔ ∃ f g, Bij a.n b.n f g ∧ f x = y ∧ Rc a b k x y ∧ ∀ z, z < a.n → z ≠ x → kindOf a x z = kindOf b y (f z) ∧ Rc a b k z (f z) := by
  rw [rc_succ hx hy, desc_bij hx hy]; rfl
theorem rc_down {k x y : Nat} (hx : x < a.n) (hy : y < b.n) : ∀ {n : Nat}, Rc a b (k + n) x y → Rc a b k x y
  | 0, h => h
  | n + 1, h => by
    obtain ⟨_, _, _, _, h, _⟩ := (rc_step (k := k + n) hx hy).1 h
    exact rc_down hx hy h
theorem rc_bits {k x y : Nat} (hx : x < a.n) (hy : y < b.n) (h : Rc a b k x y) : bitAt a.s x = bitAt b.s y ∧ bitAt a.r (x * a.n + x) = bitAt b.r (y * b.n + y) :=
  d0_iff.1 ((rc_zero hx hy).1 (rc_down (k := 0) (n := k) hx hy (by rw [Nat.zero_add]; exact h)))
/-- two pebbles, the elements under them have the same colours -/
def Inv (a b : St) (n : Nat) (ps bs : List Nat) : Prop := Fit (grS a) (grS b) ps bs ∧ ∀ i, i < ps.length → ps.getD i 0 ≠ 0 → Rc a b n (ps.getD i 0 - 1) (bs.getD i 0 - 1)
theorem other (i : Nat) (hi : i < 2) : (1 - i < 2) ∧ 1 - i ≠ i ∧ ∀ j, j < 2 → j = i ∨ j = 1 - i := by
  refine ⟨by omega, by omega, fun j hj => by omega⟩
/-- a pebble is put on elements that are to the other one's in the same way -/
theorem Inv.put {n : Nat} {ps bs : List Nat} (hl : ps.length = 2) (h : Fit (grS a) (grS b) ps bs) {i x y : Nat} (hi : i < 2) (hx : x < a.n) (hy : y < b.n) (hr : Rc a b n x y)
    (ho : ps.getD (1 - i) 0 ≠ 0 → Rc a b n (ps.getD (1 - i) 0 - 1) (bs.getD (1 - i) 0 - 1) ∧ (x = ps.getD (1 - i) 0 - 1 ↔ y = bs.getD (1 - i) 0 - 1) ∧ (x ≠ ps.getD (1 - i) 0 - 1 → kindOf a (ps.getD (1 - i) 0 - 1) x = kindOf b (bs.getD (1 - i) 0 - 1) y)) :
    Inv a b n (ps.set i (x + 1)) (bs.set i (y + 1)) := by
  have hlb : bs.length = 2 := by rw [← h.len]; exact hl
  obtain ⟨_, o2, o3⟩ := other i hi
  have hbits := rc_bits hx hy hr
  have ga : ∀ j, (ps.set i (x + 1)).getD j 0 = if i = j then x + 1 else ps.getD j 0 := fun j => get_set (by omega)
  have gb : ∀ j, (bs.set i (y + 1)).getD j 0 = if i = j then y + 1 else bs.getD j 0 := fun j => get_set (by omega)
  have oo : 1 - i < ps.length := by omega
  have pos : ∀ {z w : Nat}, z ≠ 0 → (x + 1 = z ↔ x = z - 1) := fun h => by omega
  refine ⟨⟨by simp [h.len], fun j hj => ?_, fun j hj hn => ?_, fun j k hj hk hnj hnk => ?_⟩, fun j hj hn => ?_⟩
  · rw [List.length_set] at hj
    rw [ga, gb]
    by_cases e : i = j
    · rw [if_pos e, if_pos e]; exact ⟨by omega, hx, hy⟩
    · rw [if_neg e, if_neg e]; exact h.lay j hj
  · rw [List.length_set] at hj
    rw [ga] at hn ⊢; rw [gb]
    by_cases e : i = j
    · rw [if_pos e, if_pos e]; exact hbits.1
    · rw [if_neg e] at hn ⊢; rw [if_neg e]; exact h.set j hj hn
  · rw [List.length_set] at hj hk
    rw [ga] at hnj hnk
    rw [ga, ga, gb, gb]
    by_cases e : i = j <;> by_cases e2 : i = k
    · rw [if_pos e, if_pos e, if_pos e2, if_pos e2]; exact ⟨⟨fun _ => rfl, fun _ => rfl⟩, hbits.2⟩
    · rw [if_pos e, if_pos e, if_neg e2, if_neg e2]
      rw [if_neg e2] at hnk
      obtain rfl : k = 1 - i := by rcases o3 k (by omega) with h | h; exact absurd h.symm e2; exact h
      have hnk2 : bs.getD (1 - i) 0 ≠ 0 := fun e => hnk ((h.lay _ oo).1.2 e)
      obtain ⟨h1, h2, h3⟩ := ho hnk
      refine ⟨by omega, ?_⟩
      show bitAt a.r (x * a.n + (ps.getD (1 - i) 0 - 1)) = bitAt b.r (y * b.n + (bs.getD (1 - i) 0 - 1))
      by_cases ex : x = ps.getD (1 - i) 0 - 1
      · rw [← ex, ← h2.1 ex]; exact hbits.2
      · exact (kind_iff.1 (h3 ex)).2
    · rw [if_neg e, if_neg e, if_pos e2, if_pos e2]
      rw [if_neg e] at hnj
      obtain rfl : j = 1 - i := by rcases o3 j (by omega) with h | h; exact absurd h.symm e; exact h
      have hnk2 : bs.getD (1 - i) 0 ≠ 0 := fun e => hnj ((h.lay _ oo).1.2 e)
      obtain ⟨h1, h2, h3⟩ := ho hnj
      refine ⟨by omega, ?_⟩
      show bitAt a.r ((ps.getD (1 - i) 0 - 1) * a.n + x) = bitAt b.r ((bs.getD (1 - i) 0 - 1) * b.n + y)
      by_cases ex : x = ps.getD (1 - i) 0 - 1
      · rw [← ex, ← h2.1 ex]; exact hbits.2
      · exact (kind_iff.1 (h3 ex)).1
    · rw [if_neg e, if_neg e, if_neg e2, if_neg e2]
      rw [if_neg e] at hnj; rw [if_neg e2] at hnk
      exact h.rel j k hj hk hnj hnk
  · rw [List.length_set] at hj
    rw [ga] at hn ⊢; rw [gb]
    by_cases e : i = j
    · rw [if_pos e, if_pos e]; exact hr
    · rw [if_neg e] at hn ⊢; rw [if_neg e]
      obtain rfl : j = 1 - i := by rcases o3 j (by omega) with h | h; exact absurd h.symm e; exact h
      exact (ho hn).1
/-- elements of the same colours: the second player wins -/
theorem cw_of_col (H : ∀ k, ∃ f g, Bij a.n b.n f g ∧ ∀ x, x < a.n → Rc a b k x (f x)) : ∀ (n : Nat) (ps bs : List Nat), ps.length = 2 → Inv a b n ps bs → Cw (grS a) (grS b) n ps bs
  | 0, _, _, _, h => h.1
  | n + 1, ps, bs, hl, h => by
    refine ⟨h.1, fun i hi => ?_⟩
    rw [hl] at hi
    obtain ⟨o1, o2, o3⟩ := other i hi
    by_cases h0 : ps.getD (1 - i) 0 = 0
    · obtain ⟨f, g, hb, hf⟩ := H n
      exact ⟨f, g, hb, fun x hx => cw_of_col H n _ _ (by rw [List.length_set]; exact hl) (Inv.put hl h.1 hi hx (hb.1 x hx).1 (hf x hx) fun e => absurd h0 e)⟩
    · obtain ⟨_, la, lb⟩ := h.1.lay (1 - i) (by omega)
      have hb0 : bs.getD (1 - i) 0 ≠ 0 := fun e => h0 ((h.1.lay (1 - i) (by omega)).1.2 e)
      have hxn : ps.getD (1 - i) 0 - 1 < a.n := by have : (grS a).n = a.n := rfl; omega
      have hyn : bs.getD (1 - i) 0 - 1 < b.n := by have : (grS b).n = b.n := rfl; omega
      obtain ⟨f, g, hb, hf, hr, hz⟩ := (rc_step hxn hyn).1 (h.2 (1 - i) (by omega) h0)
      refine ⟨f, g, hb, fun x hx => cw_of_col H n _ _ (by rw [List.length_set]; exact hl) (Inv.put hl h.1 hi hx (hb.1 x hx).1 ?_ fun _ => ⟨hr, ⟨fun e => by rw [e]; exact hf, fun e => by rw [← (hb.1 x hx).2, e, ← hf, (hb.1 _ hxn).2]⟩, fun hn => (hz x hx hn).1⟩)⟩
      by_cases ex : x = ps.getD (1 - i) 0 - 1
      · rw [ex, hf]; exact hr
      · exact (hz x hx ex).2
/-- the second player wins: the elements under pebbles have the same colours -/
theorem col_of_cw : ∀ (n : Nat) (ps bs : List Nat), ps.length = 2 → Cw (grS a) (grS b) n ps bs → ∀ i, i < 2 → ps.getD i 0 ≠ 0 → Rc a b n (ps.getD i 0 - 1) (bs.getD i 0 - 1)
  | 0, ps, bs, hl, h, i, hi, hn => by
    have h : Fit (grS a) (grS b) ps bs := h
    obtain ⟨l1, l2, l3⟩ := h.lay i (by omega)
    have hbn : bs.getD i 0 ≠ 0 := fun e => hn (l1.2 e)
    refine (rc_zero (by have : (grS a).n = a.n := rfl; omega) (by have : (grS b).n = b.n := rfl; omega)).2 (d0_iff.2 ⟨h.set i (by omega) hn, (h.rel i i (by omega) (by omega) hn hn).2⟩)
  | n + 1, ps, bs, hl, h, i, hi, hn => by
    obtain ⟨o1, o2, o3⟩ := other i hi
    have hlb : bs.length = 2 := by rw [← h.fit.len]; exact hl
    obtain ⟨l1, l2, l3⟩ := h.fit.lay i (by omega)
    have hbn : bs.getD i 0 ≠ 0 := fun e => hn (l1.2 e)
    have hxn : ps.getD i 0 - 1 < a.n := by have : (grS a).n = a.n := rfl; omega
    have hyn : bs.getD i 0 - 1 < b.n := by have : (grS b).n = b.n := rfl; omega
    obtain ⟨f, g, hb, hc⟩ := h.2 (1 - i) (by omega)
    have ga : ∀ z j, (ps.set (1 - i) (z + 1)).getD j 0 = if 1 - i = j then z + 1 else ps.getD j 0 := fun z j => get_set (by omega)
    have gb : ∀ z j, (bs.set (1 - i) (z + 1)).getD j 0 = if 1 - i = j then z + 1 else bs.getD j 0 := fun z j => get_set (by omega)
    have hrel : ∀ z, z < a.n → (ps.getD i 0 = z + 1 ↔ bs.getD i 0 = f z + 1) ∧ bitAt a.r ((ps.getD i 0 - 1) * a.n + z) = bitAt b.r ((bs.getD i 0 - 1) * b.n + f z) ∧ bitAt a.r (z * a.n + (ps.getD i 0 - 1)) = bitAt b.r (f z * b.n + (bs.getD i 0 - 1)) := fun z hz => by
      have hF := (hc z hz).fit
      have r1 := hF.rel i (1 - i) (by simp; omega) (by simp; omega) (by rw [ga, if_neg o2]; exact hn) (by rw [ga, if_pos rfl]; omega)
      have r2 := hF.rel (1 - i) i (by simp; omega) (by simp; omega) (by rw [ga, if_pos rfl]; omega) (by rw [ga, if_neg o2]; exact hn)
      rw [ga, ga, gb, gb, if_neg o2, if_pos rfl, if_neg o2, if_pos rfl] at r1
      rw [ga, ga, gb, gb, if_neg o2, if_pos rfl, if_neg o2, if_pos rfl] at r2
      exact ⟨r1.1, r1.2, r2.2⟩
    refine (rc_step hxn hyn).2 ⟨f, g, hb, ?_, col_of_cw n ps bs hl h.less i hi hn, fun z hz hzn => ⟨kind_iff.2 ⟨(hrel z hz).2.1, (hrel z hz).2.2⟩, ?_⟩⟩
    · have := (hrel _ hxn).1.1 (by omega); omega
    · have := col_of_cw n _ _ (by rw [List.length_set]; exact hl) (hc z hz) (1 - i) o1 (by rw [ga, if_pos rfl]; omega)
      rw [ga, gb, if_pos rfl, if_pos rfl] at this
      exact this
theorem same_bij {k : Nat} : sameAt a b k = true ↔ ∃ f g, Bij a.n b.n f g ∧ ∀ x, x < a.n → Rc a b k x (f x) := by
  have ea : colA a b k = (List.range a.n).map fun x => (colA a b k).getD x 0 := ext_getD (by simp [colA_length]) fun i hi => by
    rw [colA_length] at hi
    simp [List.getD_eq_getElem?_getD, List.getElem?_range hi]
  have eb : colB a b k = (List.range b.n).map fun x => (colB a b k).getD x 0 := ext_getD (by simp [colB_length]) fun i hi => by
    rw [colB_length] at hi
    simp [List.getD_eq_getElem?_getD, List.getElem?_range hi]
  show decide ((colA a b k).Perm (colB a b k)) = true ↔ _
  rw [decide_eq_true_iff, ea, eb]
  exact keys_bij.trans Iff.rfl
theorem beside_fit (a b : St) : Fit (grS a) (grS b) [0, 0] [0, 0] where
  len := rfl
  lay := fun i hi => by
    have : ([0, 0] : List Nat).getD i 0 = 0 := by
      match i with
      | 0 => rfl
      | 1 => rfl
      | i + 2 => rfl
    rw [this]; exact ⟨Iff.rfl, Nat.zero_le _, Nat.zero_le _⟩
  set := fun i hi hn => by
    exfalso
    match i with
    | 0 => exact hn rfl
    | 1 => exact hn rfl
    | i + 2 => exact hn rfl
  rel := fun i j hi hj hn => by
    exfalso
    match i with
    | 0 => exact hn rfl
    | 1 => exact hn rfl
    | i + 2 => exact hn rfl
/-- the same colours: the second player never loses -/
theorem same_iff : (∀ k, sameAt a b k = true) ↔ ∀ n, Cw (grS a) (grS b) n [0, 0] [0, 0] := by
  constructor
  · intro h n
    refine cw_of_col (fun k => same_bij.1 (h k)) n _ _ rfl ⟨beside_fit a b, fun i hi hn => ?_⟩
    exfalso
    match i with
    | 0 => exact hn rfl
    | 1 => exact hn rfl
    | i + 2 => exact hn rfl
  · intro h k
    obtain ⟨f, g, hb, hc⟩ := (h (k + 1)).2 0 (by decide)
    refine same_bij.2 ⟨f, g, hb, fun x hx => ?_⟩
    exact col_of_cw k _ _ rfl (hc x hx) 0 (by decide) (by show x + 1 ≠ 0; omega)
end
end Go.Proofs.YtpcnoiigbmiejaaGreatDoor.peb
