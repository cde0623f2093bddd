/- Several texts in one: Ord, Fits, FitsP, Iso. -/
import Derived.WalkKit
import Derived.Test.YtpcnoiigbmiejaaDoorBase
import Derived.Test.YtpcnoiigbmiejaaDoorFlow
import Derived.Test.YtpcnoiigbmiejaaDoorNear
/- Orders of the elements of a structure that fit another one: what the search tells, and in which order. No program in sight. -/
namespace Go.Proofs.YtpcnoiigbmiejaaDoor.ord
set_option linter.unusedVariables false
set_option linter.unusedSimpArgs false

/-- the orders that begin with pre and take d elements more, each of which may be had behind those ahead of it -/
def ords (n : Nat) (ok : List Nat → Nat → Bool) : Nat → List Nat → List (List Nat)
  | 0, pre => [pre]
  | d + 1, pre => (List.range n).flatMap fun x => if ok pre x = true then ords n ok d (pre ++ [x]) else []
/-- those of them whose next element is less than k -/
def upto (n : Nat) (ok : List Nat → Nat → Bool) (d : Nat) (pre : List Nat) (k : Nat) : List (List Nat) :=
  (List.range k).flatMap fun x => if ok pre x = true then ords n ok d (pre ++ [x]) else []
theorem upto_zero (n : Nat) (ok : List Nat → Nat → Bool) (d : Nat) (pre : List Nat) : upto n ok d pre 0 = [] := rfl
theorem upto_yes {n : Nat} {ok : List Nat → Nat → Bool} {d : Nat} {pre : List Nat} {k : Nat} (h : ok pre k = true) : upto n ok d pre (k + 1) = upto n ok d pre k ++ ords n ok d (pre ++ [k]) := by
  simp [upto, List.range_succ, h]
theorem upto_no {n : Nat} {ok : List Nat → Nat → Bool} {d : Nat} {pre : List Nat} {k : Nat} (h : ok pre k = false) : upto n ok d pre (k + 1) = upto n ok d pre k := by
  simp [upto, List.range_succ, h]
/-- telling one after another, until it is enough -/
def run {σ : Type} (st : σ → List Nat → σ × Bool) : List (List Nat) → σ → σ × Bool
  | [], s => (s, true)
  | o :: os, s => if (st s o).2 = true then run st os (st s o).1 else ((st s o).1, false)
/-- the first one, as a search that stops there -/
def first : List Nat → List (List Nat) → Option (List Nat)
  | _, [] => none
  | _, o :: _ => some o
end Go.Proofs.YtpcnoiigbmiejaaDoor.ord

/- Whether an element may stand behind others: placed of the program; plain words and its contract. -/
namespace Go.Proofs.YtpcnoiigbmiejaaDoor.fits
set_option linter.unusedVariables false
set_option linter.unusedSimpArgs false
open Go.ChangeShapes Go.WideShapes Go.ChangeAt Go.RowKit
open Go.Proofs.YtpcnoiigbmiejaaDoor.lib Go.Proofs.YtpcnoiigbmiejaaDoor.st Go.Proofs.YtpcnoiigbmiejaaDoor.base Go.Proofs.YtpcnoiigbmiejaaDoor.flow

/-- numbers as integers -/
def ints (l : List Nat) : List Int := l.map fun (y : Nat) => (y : Int)
theorem ints_len (l : List Nat) : (ints l).length = l.length := by simp [ints]
theorem ints_get (l : List Nat) (i : Nat) : (ints l).getD i 0 = ((l.getD i 0 : Nat) : Int) := by
  simp only [ints, List.getD_eq_getElem?_getD, List.getElem?_map]
  cases l[i]? <;> rfl
theorem ints_app (l m : List Nat) : ints (l ++ m) = ints l ++ ints m := by simp [ints]
theorem all_upto {f : Nat → Bool} {k : Nat} (h : ∀ j, j < k → f j = true) : (List.range k).all f = true := List.all_eq_true.2 fun j hj => h j (List.mem_range.1 hj)
theorem all_not {f : Nat → Bool} {k j : Nat} (hj : j < k) (h : f j = false) : (List.range k).all f = false := List.all_eq_false.2 ⟨j, List.mem_range.2 hj, by simp [h]⟩

end Go.Proofs.YtpcnoiigbmiejaaDoor.fits

/- The reference's way to see whether an element may stand behind others, and what a first element does: plain words. -/
namespace Go.Proofs.YtpcnoiigbmiejaaDoor.fits
set_option linter.unusedVariables false
set_option linter.unusedSimpArgs false
open Go.Proofs.YtpcnoiigbmiejaaDoor.base Go.Proofs.YtpcnoiigbmiejaaDoor.ord

end Go.Proofs.YtpcnoiigbmiejaaDoor.fits

/- Orders that fit are isomorphisms: they turn round and are put behind one another. No program in sight. -/
namespace Go.Proofs.YtpcnoiigbmiejaaDoor.fits
set_option linter.unusedVariables false
set_option linter.unusedSimpArgs false
open Go.Proofs.YtpcnoiigbmiejaaDoor.base Go.Proofs.YtpcnoiigbmiejaaDoor.ord

/-- o turns the first structure into the second one -/
structure Iso (n : Nat) (sa ra sb rb : ByteArray) (o : List Nat) : Prop where
  len : o.length = n
  lt : ∀ i, i < n → o.getD i 0 < n
  inj : ∀ i j, i < n → j < n → o.getD i 0 = o.getD j 0 → i = j
  s : ∀ i, i < n → bitAt sa (o.getD i 0) = bitAt sb i
  r : ∀ i j, i < n → j < n → bitAt ra (o.getD i 0 * n + o.getD j 0) = bitAt rb (i * n + j)

theorem getD_take {l : List Nat} {i k : Nat} (h : k < i) : (l.take i).getD k 0 = l.getD k 0 := by
  simp [List.getD_eq_getElem?_getD, List.getElem?_take, h]
/-- every place is taken -/
theorem Iso.onto {n : Nat} {sa ra sb rb : ByteArray} {o : List Nat} (h : Iso n sa ra sb rb o) {y : Nat} (hy : y < n) : ∃ i, i < n ∧ o.getD i 0 = y := by
  have hmem : y ∈ o := by
    refine Classical.byContradiction fun hn => ?_
    have hnd : (y :: o).Nodup := by
      refine List.nodup_cons.2 ⟨hn, ?_⟩
      rw [List.nodup_iff_pairwise_ne, List.pairwise_iff_getElem]
      intro i j hi hj hij e
      have := h.inj i j (by have := h.len; omega) (by have := h.len; omega) (by rw [List.getD_eq_getElem?_getD, List.getD_eq_getElem?_getD, List.getElem?_eq_getElem hi, List.getElem?_eq_getElem hj]; simp [e])
      omega
    have hl := hnd.length_le_of_subset (l₂ := List.range n) (fun z hz => by
      rcases List.mem_cons.1 hz with rfl | hz
      · exact List.mem_range.2 hy
      · obtain ⟨i, hi, rfl⟩ := List.getElem_of_mem hz
        have := h.lt i (by have := h.len; omega)
        rw [List.getD_eq_getElem?_getD, List.getElem?_eq_getElem hi] at this
        exact List.mem_range.2 this)
    have := h.len
    simp at hl; omega
  obtain ⟨i, hi, e⟩ := List.getElem_of_mem hmem
  exact ⟨i, by have := h.len; omega, by rw [List.getD_eq_getElem?_getD, List.getElem?_eq_getElem hi]; exact e⟩
/-- what stands at a place of a list that is written by a function -/
theorem getD_map_range {n i : Nat} (f : Nat → Nat) (h : i < n) : ((List.range n).map f).getD i 0 = f i := by
  simp [List.getD_eq_getElem?_getD, h]
theorem Iso.of_fun {n : Nat} {sa ra sb rb : ByteArray} (f : Nat → Nat) (lt : ∀ i, i < n → f i < n) (inj : ∀ i j, i < n → j < n → f i = f j → i = j) (s : ∀ i, i < n → bitAt sa (f i) = bitAt sb i)
    (r : ∀ i j, i < n → j < n → bitAt ra (f i * n + f j) = bitAt rb (i * n + j)) : Iso n sa ra sb rb ((List.range n).map f) := by
  refine ⟨by simp, fun i hi => by rw [getD_map_range f hi]; exact lt i hi, fun i j hi hj e => ?_, fun i hi => by rw [getD_map_range f hi]; exact s i hi, fun i j hi hj => by rw [getD_map_range f hi, getD_map_range f hj]; exact r i j hi hj⟩
  rw [getD_map_range f hi, getD_map_range f hj] at e
  exact inj i j hi hj e
theorem Iso.refl (n : Nat) (s r : ByteArray) : Iso n s r s r ((List.range n).map id) :=
  Iso.of_fun id (fun _ h => h) (fun _ _ _ _ h => h) (fun _ _ => rfl) (fun _ _ _ _ => rfl)
/-- the other way round -/
theorem Iso.symm {n : Nat} {sa ra sb rb : ByteArray} {o : List Nat} (h : Iso n sa ra sb rb o) : ∃ f : Nat → Nat, (∀ i, i < n → f i < n ∧ o.getD (f i) 0 = i) ∧ Iso n sb rb sa ra ((List.range n).map f) := by
  have hf : ∀ y, ∃ i, y < n → i < n ∧ o.getD i 0 = y := fun y => by
    by_cases hy : y < n
    · obtain ⟨i, h1, h2⟩ := h.onto hy; exact ⟨i, fun _ => ⟨h1, h2⟩⟩
    · exact ⟨0, fun h => absurd h hy⟩
  obtain ⟨f, hf⟩ := Classical.axiomOfChoice hf
  refine ⟨f, hf, Iso.of_fun f (fun i hi => (hf i hi).1) (fun i j hi hj e => ?_) (fun i hi => ?_) (fun i j hi hj => ?_)⟩
  · rw [← (hf i hi).2, ← (hf j hj).2, e]
  · rw [← h.s (f i) (hf i hi).1, (hf i hi).2]
  · rw [← h.r (f i) (f j) (hf i hi).1 (hf j hj).1, (hf i hi).2, (hf j hj).2]
/-- one after the other -/
theorem Iso.trans {n : Nat} {sa ra sb rb sc rc : ByteArray} {o p : List Nat} (h : Iso n sa ra sb rb o) (k : Iso n sb rb sc rc p) : Iso n sa ra sc rc ((List.range n).map fun i => o.getD (p.getD i 0) 0) :=
  Iso.of_fun _ (fun i hi => h.lt _ (k.lt i hi)) (fun i j hi hj e => k.inj i j hi hj (h.inj _ _ (k.lt i hi) (k.lt j hj) e)) (fun i hi => by rw [h.s _ (k.lt i hi), k.s i hi]) (fun i j hi hj => by rw [h.r _ _ (k.lt i hi) (k.lt j hj), k.r i j hi hj])
/-- those that begin with the middle -/
def Twin (n : Nat) (sa ra sb rb : ByteArray) : Prop := ∃ o, Iso n sa ra sb rb o ∧ o.getD 0 0 = 0
theorem Twin.refl {n : Nat} (s r : ByteArray) (hn : 1 ≤ n) : Twin n s r s r := ⟨_, Iso.refl n s r, by rw [getD_map_range id (by omega)]; rfl⟩
theorem Twin.symm {n : Nat} {sa ra sb rb : ByteArray} (hn : 1 ≤ n) (h : Twin n sa ra sb rb) : Twin n sb rb sa ra := by
  obtain ⟨o, h, h0⟩ := h
  obtain ⟨f, hf, k⟩ := h.symm
  refine ⟨_, k, ?_⟩
  rw [getD_map_range f (by omega)]
  exact h.inj _ _ (hf 0 (by omega)).1 (by omega) ((hf 0 (by omega)).2.trans h0.symm)
theorem Twin.trans {n : Nat} {sa ra sb rb sc rc : ByteArray} (hn : 1 ≤ n) (h : Twin n sa ra sb rb) (k : Twin n sb rb sc rc) : Twin n sa ra sc rc := by
  obtain ⟨o, h, h0⟩ := h
  obtain ⟨p, k, k0⟩ := k
  exact ⟨_, h.trans k, by rw [getD_map_range _ (by omega), k0, h0]⟩
end Go.Proofs.YtpcnoiigbmiejaaDoor.fits
