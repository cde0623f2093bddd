/- Several texts in one: Near, Ord, Fits, FitsP, Iso. -/
import Derived.Test.YtpcnoiigbmiejaaGreatDoorRows
import Derived.Test.YtpcnoiigbmiejaaGreatDoorPk2
import Derived.Test.YtpcnoiigbmiejaaGreatDoorPk1
import Derived.WalkKit
/- The elements next to an element: nearOf and NearOf, in the program and in the reference. -/
namespace Go.Proofs.YtpcnoiigbmiejaaGreatDoor.near
set_option linter.unusedVariables false
set_option linter.unusedSimpArgs false
open Go.ChangeShapes Go.WideShapes Go.ChangeAt Go.RowKit
open Go.Proofs.YtpcnoiigbmiejaaGreatDoor.lib Go.Proofs.YtpcnoiigbmiejaaGreatDoor.st Go.Proofs.YtpcnoiigbmiejaaGreatDoor.base

/-- two elements are next to each other -/
def adj (n : Nat) (r : ByteArray) (x y : Nat) : Bool := (x != y) && (bitAt r (x * n + y) || bitAt r (y * n + x))
/-- those up to k -/
def nearTo (n : Nat) (r : ByteArray) (x k : Nat) : List Int := ((List.range k).filter (adj n r x)).map fun (y : Nat) => (y : Int)
theorem nearTo_len (n : Nat) (r : ByteArray) (x k : Nat) : (nearTo n r x k).length ≤ k := by
  unfold nearTo; rw [List.length_map]
  have := List.length_filter_le (adj n r x) (List.range k)
  rw [List.length_range] at this; exact this
theorem emptyRow (T : TypeId) (w : World) (B H : Nat) (hH : w.heap.size = H) (hB : B ≤ H) : OwnI T (w.alloc (.cells #[] T)) B (.slice (some ⟨H, 0, none⟩) 0 0) [] := by
  subst hH
  exact World.ownsRow_made w #[] 0 hB (by decide) rfl
theorem infoInt : (Tryz.prog.info? 3).map (fun i => (i.zero, i.size, i.bytes)) = some (some (.int .i64 0), 1, 8) := by kernel_rfl

/-- what NearOf returns -/
def nearR (n : Int) (s r : ByteArray) (x : Int) : List Int := if elemB n s r x = true then nearTo n.toNat r x.toNat n.toNat else []
theorem valid_nat {n : Int} {s r : ByteArray} {x : Int} (h : elemB n s r x = true) : ∃ (N X : Nat), n = N ∧ x = X ∧ X < N ∧ N ≤ 8 ∧ s.size = N ∧ r.size = N * N := by
  obtain ⟨hv, h0, h1⟩ := elemB_iff.1 h
  obtain ⟨⟨h2, h3⟩, hs, hr, _⟩ := validB_iff.1 hv
  refine ⟨n.toNat, x.toNat, by omega, by omega, by omega, by omega, by omega, ?_⟩
  have e : (n.toNat : Int) = n := by omega
  have : ((n.toNat * n.toNat : Nat) : Int) = n * n := by rw [Int.natCast_mul, e]
  omega

theorem len0 (n : Int) (s r : ByteArray) (x : Int) : s.size + r.size ≤ 1048576 → (nearR n s r x).length ≤ 4194304 := by
  intro _; unfold nearR; split
  · rename_i h
    obtain ⟨N, X, rfl, rfl, hX, hN, _⟩ := valid_nat h
    have := nearTo_len N r X N
    simp; omega
  · simp
end Go.Proofs.YtpcnoiigbmiejaaGreatDoor.near

/- Orders of the elements of a structure that fit another one: what the search tells, and in which order. No program in sight. -/
namespace Go.Proofs.YtpcnoiigbmiejaaGreatDoor.ord
set_option linter.unusedVariables false
set_option linter.unusedSimpArgs false

/-- the orders that begin with pre and take d elements more, each of which may be had behind those ahead of it -/
def ords (n : Nat) (ok : List Nat → Nat → Bool) : Nat → List Nat → List (List Nat)
  | 0, pre => [pre]
  | d + 1, pre => (List.range n).flatMap fun x => if ok pre x = true then ords n ok d (pre ++ [x]) else []
/-- those of them whose next element is less than k -/
def upto (n : Nat) (ok : List Nat → Nat → Bool) (d : Nat) (pre : List Nat) (k : Nat) : List (List Nat) :=
  (List.range k).flatMap fun x => if ok pre x = true then ords n ok d (pre ++ [x]) else []
/-- telling one after another, until it is enough -/
def run {σ : Type} (st : σ → List Nat → σ × Bool) : List (List Nat) → σ → σ × Bool
  | [], s => (s, true)
  | o :: os, s => if (st s o).2 = true then run st os (st s o).1 else ((st s o).1, false)
/-- the first one, as a search that stops there -/
def first : List Nat → List (List Nat) → Option (List Nat)
  | _, [] => none
  | _, o :: _ => some o
end Go.Proofs.YtpcnoiigbmiejaaGreatDoor.ord

/- Whether an element may stand behind others: placed of the program; plain words and its contract. -/
namespace Go.Proofs.YtpcnoiigbmiejaaGreatDoor.fits
set_option linter.unusedVariables false
set_option linter.unusedSimpArgs false
open Go.ChangeShapes Go.WideShapes Go.ChangeAt Go.RowKit
open Go.Proofs.YtpcnoiigbmiejaaGreatDoor.lib Go.Proofs.YtpcnoiigbmiejaaGreatDoor.st Go.Proofs.YtpcnoiigbmiejaaGreatDoor.base Go.Proofs.YtpcnoiigbmiejaaGreatDoor.flow

/-- numbers as integers -/
def ints (l : List Nat) : List Int := l.map fun (y : Nat) => (y : Int)
theorem ints_len (l : List Nat) : (ints l).length = l.length := by simp [ints]
theorem ints_get (l : List Nat) (i : Nat) : (ints l).getD i 0 = ((l.getD i 0 : Nat) : Int) := by
  simp only [ints, List.getD_eq_getElem?_getD, List.getElem?_map]
  cases l[i]? <;> rfl
end Go.Proofs.YtpcnoiigbmiejaaGreatDoor.fits

/- The reference's way to see whether an element may stand behind others, and what a first element does: plain words. -/
namespace Go.Proofs.YtpcnoiigbmiejaaGreatDoor.fits
set_option linter.unusedVariables false
set_option linter.unusedSimpArgs false
open Go.Proofs.YtpcnoiigbmiejaaGreatDoor.base Go.Proofs.YtpcnoiigbmiejaaGreatDoor.ord

end Go.Proofs.YtpcnoiigbmiejaaGreatDoor.fits

/- Orders that fit are isomorphisms: they turn round and are put behind one another. No program in sight. -/
namespace Go.Proofs.YtpcnoiigbmiejaaGreatDoor.fits
set_option linter.unusedVariables false
set_option linter.unusedSimpArgs false
open Go.Proofs.YtpcnoiigbmiejaaGreatDoor.base Go.Proofs.YtpcnoiigbmiejaaGreatDoor.ord

/-- o turns the first structure into the second one -/
structure Iso (n : Nat) (sa ra sb rb : ByteArray) (o : List Nat) : Prop where
  len : o.length = n
  lt : ∀ i, i < n → o.getD i 0 < n
  inj : ∀ i j, i < n → j < n → o.getD i 0 = o.getD j 0 → i = j
  s : ∀ i, i < n → bitAt sa (o.getD i 0) = bitAt sb i
  r : ∀ i j, i < n → j < n → bitAt ra (o.getD i 0 * n + o.getD j 0) = bitAt rb (i * n + j)

theorem getD_take {l : List Nat} {i k : Nat} (h : k < i) : (l.take i).getD k 0 = l.getD k 0 := by
  simp [List.getD_eq_getElem?_getD, List.getElem?_take, h]
/-- every place is taken -/
theorem Iso.onto {n : Nat} {sa ra sb rb : ByteArray} {o : List Nat} (h : Iso n sa ra sb rb o) {y : Nat} (hy : y < n) : ∃ i, i < n ∧ o.getD i 0 = y := by
  have hmem : y ∈ o := by
    refine Classical.byContradiction fun hn => ?_
    have hnd : (y :: o).Nodup := by
      refine List.nodup_cons.2 ⟨hn, ?_⟩
      rw [List.nodup_iff_pairwise_ne, List.pairwise_iff_getElem]
      intro i j hi hj hij e
      have := h.inj i j (by have := h.len; omega) (by have := h.len; omega) (by rw [List.getD_eq_getElem?_getD, List.getD_eq_getElem?_getD, List.getElem?_eq_getElem hi, List.getElem?_eq_getElem hj]; simp [e])
      omega
    have hl := hnd.length_le_of_subset (l₂ := List.range n) (fun z hz => by
      rcases List.mem_cons.1 hz with rfl | hz
      · exact List.mem_range.2 hy
      · obtain ⟨i, hi, rfl⟩ := List.getElem_of_mem hz
        have := h.lt i (by have := h.len; omega)
        rw [List.getD_eq_getElem?_getD, List.getElem?_eq_getElem hi] at this
        exact List.mem_range.2 this)
    have := h.len
    simp at hl; omega
  obtain ⟨i, hi, e⟩ := List.getElem_of_mem hmem
  exact ⟨i, by have := h.len; omega, by rw [List.getD_eq_getElem?_getD, List.getElem?_eq_getElem hi]; exact e⟩
/-- what stands at a place of a list that is written by a function -/
theorem getD_map_range {n i : Nat} (f : Nat → Nat) (h : i < n) : ((List.range n).map f).getD i 0 = f i := by
  simp [List.getD_eq_getElem?_getD, h]
theorem Iso.of_fun {n : Nat} {sa ra sb rb : ByteArray} (f : Nat → Nat) (lt : ∀ i, i < n → f i < n) (inj : ∀ i j, i < n → j < n → f i = f j → i = j) (s : ∀ i, i < n → bitAt sa (f i) = bitAt sb i)
    (r : ∀ i j, i < n → j < n → bitAt ra (f i * n + f j) = bitAt rb (i * n + j)) : Iso n sa ra sb rb ((List.range n).map f) := by
  refine ⟨by simp, fun i hi => by rw [getD_map_range f hi]; exact lt i hi, fun i j hi hj e => ?_, fun i hi => by rw [getD_map_range f hi]; exact s i hi, fun i j hi hj => by rw [getD_map_range f hi, getD_map_range f hj]; exact r i j hi hj⟩
  rw [getD_map_range f hi, getD_map_range f hj] at e
  exact inj i j hi hj e
theorem Iso.refl (n : Nat) (s r : ByteArray) : Iso n s r s r ((List.range n).map id) :=
  Iso.of_fun id (fun _ h => h) (fun _ _ _ _ h => h) (fun _ _ => rfl) (fun _ _ _ _ => rfl)
/-- the other way round -/
theorem Iso.symm {n : Nat} {sa ra sb rb : ByteArray} {o : List Nat} (h : Iso n sa ra sb rb o) : ∃ f : Nat → Nat, (∀ i, i < n → f i < n ∧ o.getD (f i) 0 = i) ∧ Iso n sb rb sa ra ((List.range n).map f) := by
  have hf : ∀ y, ∃ i, y < n → i < n ∧ o.getD i 0 = y := fun y => by
    by_cases hy : y < n
    · obtain ⟨i, h1, h2⟩ := h.onto hy; exact ⟨i, fun _ => ⟨h1, h2⟩⟩
    · exact ⟨0, fun h => absurd h hy⟩
  obtain ⟨f, hf⟩ := Classical.axiomOfChoice hf
  refine ⟨f, hf, Iso.of_fun f (fun i hi => (hf i hi).1) (fun i j hi hj e => ?_) (fun i hi => ?_) (fun i j hi hj => ?_)⟩
  · rw [← (hf i hi).2, ← (hf j hj).2, e]
  · rw [← h.s (f i) (hf i hi).1, (hf i hi).2]
  · rw [← h.r (f i) (f j) (hf i hi).1 (hf j hj).1, (hf i hi).2, (hf j hj).2]
/-- one after the other -/
theorem Iso.trans {n : Nat} {sa ra sb rb sc rc : ByteArray} {o p : List Nat} (h : Iso n sa ra sb rb o) (k : Iso n sb rb sc rc p) : Iso n sa ra sc rc ((List.range n).map fun i => o.getD (p.getD i 0) 0) :=
  Iso.of_fun _ (fun i hi => h.lt _ (k.lt i hi)) (fun i j hi hj e => k.inj i j hi hj (h.inj _ _ (k.lt i hi) (k.lt j hj) e)) (fun i hi => by rw [h.s _ (k.lt i hi), k.s i hi]) (fun i j hi hj => by rw [h.r _ _ (k.lt i hi) (k.lt j hj), k.r i j hi hj])
/-- those that begin with the middle -/
def Twin (n : Nat) (sa ra sb rb : ByteArray) : Prop := ∃ o, Iso n sa ra sb rb o ∧ o.getD 0 0 = 0
theorem Twin.refl {n : Nat} (s r : ByteArray) (hn : 1 ≤ n) : Twin n s r s r := ⟨_, Iso.refl n s r, by rw [getD_map_range id (by omega)]; rfl⟩
theorem Twin.symm {n : Nat} {sa ra sb rb : ByteArray} (hn : 1 ≤ n) (h : Twin n sa ra sb rb) : Twin n sb rb sa ra := by
  obtain ⟨o, h, h0⟩ := h
  obtain ⟨f, hf, k⟩ := h.symm
  refine ⟨_, k, ?_⟩
  rw [getD_map_range f (by omega)]
  exact h.inj _ _ (hf 0 (by omega)).1 (by omega) ((hf 0 (by omega)).2.trans h0.symm)
theorem Twin.trans {n : Nat} {sa ra sb rb sc rc : ByteArray} (hn : 1 ≤ n) (h : Twin n sa ra sb rb) (k : Twin n sb rb sc rc) : Twin n sa ra sc rc := by
  obtain ⟨o, h, h0⟩ := h
  obtain ⟨p, k, k0⟩ := k
  exact ⟨_, h.trans k, by rw [getD_map_range _ (by omega), k0, h0]⟩
end Go.Proofs.YtpcnoiigbmiejaaGreatDoor.fits
