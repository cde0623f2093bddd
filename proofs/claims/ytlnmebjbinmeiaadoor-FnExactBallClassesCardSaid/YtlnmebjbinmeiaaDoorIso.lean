/- Orders that fit are isomorphisms: they turn round and are put behind one another. No program in sight. -/
import Derived.Test.YtlnmebjbinmeiaaDoorFitsP
namespace Go.Proofs.YtlnmebjbinmeiaaDoor.fits
set_option linter.unusedVariables false
set_option linter.unusedSimpArgs false
open Go.Proofs.YtlnmebjbinmeiaaDoor.base Go.Proofs.YtlnmebjbinmeiaaDoor.ord

/-- o turns the first structure into the second one -/
structure Iso (n : Nat) (sa ra sb rb : ByteArray) (o : List Nat) : Prop where
  len : o.length = n
  lt : ∀ i, i < n → o.getD i 0 < n
  inj : ∀ i j, i < n → j < n → o.getD i 0 = o.getD j 0 → i = j
  s : ∀ i, i < n → bitAt sa (o.getD i 0) = bitAt sb i
  r : ∀ i j, i < n → j < n → bitAt ra (o.getD i 0 * n + o.getD j 0) = bitAt rb (i * n + j)

theorem okB_iff {n : Nat} {sa ra sb rb : ByteArray} {pre : List Nat} {x : Nat} : okB n sa ra sb rb pre x = true ↔ (∀ k, k < pre.length → pre.getD k 0 ≠ x) ∧ bitAt sa x = bitAt sb pre.length ∧ bitAt ra (x * n + x) = bitAt rb (pre.length * n + pre.length) ∧
    ∀ k, k < pre.length → bitAt ra (x * n + pre.getD k 0) = bitAt rb (pre.length * n + k) ∧ bitAt ra (pre.getD k 0 * n + x) = bitAt rb (k * n + pre.length) := by
  unfold okB placedB
  rw [← contains_range]
  simp only [Bool.and_eq_true, List.all_eq_true, List.mem_range, stepB, beq_iff_eq, Bool.not_eq_true', beq_eq_false_iff_ne, ne_eq]
theorem getD_take {l : List Nat} {i k : Nat} (h : k < i) : (l.take i).getD k 0 = l.getD k 0 := by
  simp [List.getD_eq_getElem?_getD, List.getElem?_take, h]
theorem mem_iso {n : Nat} {sa ra sb rb : ByteArray} {o : List Nat} : o ∈ ords n (okB n sa ra sb rb) n [] ↔ Iso n sa ra sb rb o := by
  rw [mem_ords]
  constructor
  · rintro ⟨l, e, hl, h⟩
    rw [List.nil_append] at e
    subst e
    have hk : ∀ i, i < n → o.getD i 0 < n ∧ (∀ k, k < i → o.getD k 0 ≠ o.getD i 0) ∧ bitAt sa (o.getD i 0) = bitAt sb i ∧ bitAt ra (o.getD i 0 * n + o.getD i 0) = bitAt rb (i * n + i) ∧
        ∀ k, k < i → bitAt ra (o.getD i 0 * n + o.getD k 0) = bitAt rb (i * n + k) ∧ bitAt ra (o.getD k 0 * n + o.getD i 0) = bitAt rb (k * n + i) := by
      intro i hi
      have h1 := (h i hi).1
      have h2 := okB_iff.1 (h i hi).2
      have hlen : ([] ++ o.take i).length = i := by simp; omega
      rw [hlen] at h2
      rw [List.nil_append] at h2
      refine ⟨h1, fun k hki => ?_, h2.2.1, h2.2.2.1, fun k hki => ?_⟩
      · have := h2.1 k hki; rw [getD_take hki] at this; exact this
      · have := h2.2.2.2 k hki; rw [getD_take hki] at this; exact this
    refine ⟨hl, fun i hi => (hk i hi).1, fun i j hi hj e => ?_, fun i hi => (hk i hi).2.2.1, fun i j hi hj => ?_⟩
    · rcases Nat.lt_trichotomy i j with h | h | h
      · exact absurd e ((hk j hj).2.1 i h)
      · exact h
      · exact absurd e.symm ((hk i hi).2.1 j h)
    · rcases Nat.lt_trichotomy i j with h | h | h
      · exact ((hk j hj).2.2.2.2 i h).2
      · subst h; exact (hk i hi).2.2.2.1
      · exact ((hk i hi).2.2.2.2 j h).1
  · intro h
    refine ⟨o, rfl, h.len, fun i hi => ⟨h.lt i hi, okB_iff.2 ?_⟩⟩
    have hlen : ([] ++ o.take i).length = i := by have := h.len; simp; omega
    rw [hlen, List.nil_append]
    refine ⟨fun k hk e => ?_, h.s i hi, h.r i i hi hi, fun k hk => ?_⟩
    · rw [getD_take hk] at e
      have := h.inj k i (by omega) hi e; omega
    · rw [getD_take hk]; exact ⟨h.r i k hi (by omega), h.r k i (by omega) hi⟩

/-- every place is taken -/
theorem Iso.onto {n : Nat} {sa ra sb rb : ByteArray} {o : List Nat} (h : Iso n sa ra sb rb o) {y : Nat} (hy : y < n) : ∃ i, i < n ∧ o.getD i 0 = y := by
  have hmem : y ∈ o := by
    refine Classical.byContradiction fun hn => ?_
    have hnd : (y :: o).Nodup := by
      refine List.nodup_cons.2 ⟨hn, ?_⟩
      rw [List.nodup_iff_pairwise_ne, List.pairwise_iff_getElem]
      intro i j hi hj hij e
      have := h.inj i j (by have := h.len; omega) (by have := h.len; omega) (by rw [List.getD_eq_getElem?_getD, List.getD_eq_getElem?_getD, List.getElem?_eq_getElem hi, List.getElem?_eq_getElem hj]; simp [e])
      omega
    have hl := hnd.length_le_of_subset (l₂ := List.range n) (fun z hz => by
      rcases List.mem_cons.1 hz with rfl | hz
      · exact List.mem_range.2 hy
      · obtain ⟨i, hi, rfl⟩ := List.getElem_of_mem hz
        have := h.lt i (by have := h.len; omega)
        rw [List.getD_eq_getElem?_getD, List.getElem?_eq_getElem hi] at this
        exact List.mem_range.2 this)
    have := h.len
    simp at hl; omega
  obtain ⟨i, hi, e⟩ := List.getElem_of_mem hmem
  exact ⟨i, by have := h.len; omega, by rw [List.getD_eq_getElem?_getD, List.getElem?_eq_getElem hi]; exact e⟩
/-- what stands at a place of a list that is written by a function -/
theorem getD_map_range {n i : Nat} (f : Nat → Nat) (h : i < n) : ((List.range n).map f).getD i 0 = f i := by
  simp [List.getD_eq_getElem?_getD, h]
theorem Iso.of_fun {n : Nat} {sa ra sb rb : ByteArray} (f : Nat → Nat) (lt : ∀ i, i < n → f i < n) (inj : ∀ i j, i < n → j < n → f i = f j → i = j) (s : ∀ i, i < n → bitAt sa (f i) = bitAt sb i)
    (r : ∀ i j, i < n → j < n → bitAt ra (f i * n + f j) = bitAt rb (i * n + j)) : Iso n sa ra sb rb ((List.range n).map f) := by
  refine ⟨by simp, fun i hi => by rw [getD_map_range f hi]; exact lt i hi, fun i j hi hj e => ?_, fun i hi => by rw [getD_map_range f hi]; exact s i hi, fun i j hi hj => by rw [getD_map_range f hi, getD_map_range f hj]; exact r i j hi hj⟩
  rw [getD_map_range f hi, getD_map_range f hj] at e
  exact inj i j hi hj e
theorem Iso.refl (n : Nat) (s r : ByteArray) : Iso n s r s r ((List.range n).map id) :=
  Iso.of_fun id (fun _ h => h) (fun _ _ _ _ h => h) (fun _ _ => rfl) (fun _ _ _ _ => rfl)
/-- the other way round -/
theorem Iso.symm {n : Nat} {sa ra sb rb : ByteArray} {o : List Nat} (h : Iso n sa ra sb rb o) : ∃ f : Nat → Nat, (∀ i, i < n → f i < n ∧ o.getD (f i) 0 = i) ∧ Iso n sb rb sa ra ((List.range n).map f) := by
  have hf : ∀ y, ∃ i, y < n → i < n ∧ o.getD i 0 = y := fun y => by
    by_cases hy : y < n
    · obtain ⟨i, h1, h2⟩ := h.onto hy; exact ⟨i, fun _ => ⟨h1, h2⟩⟩
    · exact ⟨0, fun h => absurd h hy⟩
  obtain ⟨f, hf⟩ := Classical.axiomOfChoice hf
  refine ⟨f, hf, Iso.of_fun f (fun i hi => (hf i hi).1) (fun i j hi hj e => ?_) (fun i hi => ?_) (fun i j hi hj => ?_)⟩
  · rw [← (hf i hi).2, ← (hf j hj).2, e]
  · rw [← h.s (f i) (hf i hi).1, (hf i hi).2]
  · rw [← h.r (f i) (f j) (hf i hi).1 (hf j hj).1, (hf i hi).2, (hf j hj).2]
/-- one after the other -/
theorem Iso.trans {n : Nat} {sa ra sb rb sc rc : ByteArray} {o p : List Nat} (h : Iso n sa ra sb rb o) (k : Iso n sb rb sc rc p) : Iso n sa ra sc rc ((List.range n).map fun i => o.getD (p.getD i 0) 0) :=
  Iso.of_fun _ (fun i hi => h.lt _ (k.lt i hi)) (fun i j hi hj e => k.inj i j hi hj (h.inj _ _ (k.lt i hi) (k.lt j hj) e)) (fun i hi => by rw [h.s _ (k.lt i hi), k.s i hi]) (fun i j hi hj => by rw [h.r _ _ (k.lt i hi) (k.lt j hj), k.r i j hi hj])
/-- those that begin with the middle -/
def Twin (n : Nat) (sa ra sb rb : ByteArray) : Prop := ∃ o, Iso n sa ra sb rb o ∧ o.getD 0 0 = 0
theorem Twin.refl {n : Nat} (s r : ByteArray) (hn : 1 ≤ n) : Twin n s r s r := ⟨_, Iso.refl n s r, by rw [getD_map_range id (by omega)]; rfl⟩
theorem Twin.symm {n : Nat} {sa ra sb rb : ByteArray} (hn : 1 ≤ n) (h : Twin n sa ra sb rb) : Twin n sb rb sa ra := by
  obtain ⟨o, h, h0⟩ := h
  obtain ⟨f, hf, k⟩ := h.symm
  refine ⟨_, k, ?_⟩
  rw [getD_map_range f (by omega)]
  exact h.inj _ _ (hf 0 (by omega)).1 (by omega) ((hf 0 (by omega)).2.trans h0.symm)
theorem Twin.trans {n : Nat} {sa ra sb rb sc rc : ByteArray} (hn : 1 ≤ n) (h : Twin n sa ra sb rb) (k : Twin n sb rb sc rc) : Twin n sa ra sc rc := by
  obtain ⟨o, h, h0⟩ := h
  obtain ⟨p, k, k0⟩ := k
  exact ⟨_, h.trans k, by rw [getD_map_range _ (by omega), k0, h0]⟩
/-- the first order begins with the middle exactly if some order does -/
theorem head_twin {n : Nat} {sa ra sb rb : ByteArray} (hn : 1 ≤ n) : (ords n (okB n sa ra sb rb) n []).head?.any (fun o => o.getD 0 0 == 0) = true ↔ Twin n sa ra sb rb := by
  obtain ⟨d, rfl⟩ := Nat.exists_eq_add_of_le hn
  rw [Nat.add_comm 1 d, head_zero (by omega), Bool.and_eq_true]
  constructor
  · rintro ⟨h1, h2⟩
    cases hl : ords (d + 1) (okB (d + 1) sa ra sb rb) d [0] with
    | nil => rw [hl] at h2; cases h2
    | cons o L =>
      have hm : o ∈ ords (d + 1) (okB (d + 1) sa ra sb rb) d [0] := by rw [hl]; exact List.mem_cons_self
      refine ⟨o, mem_iso.1 (List.mem_flatMap.2 ⟨0, List.mem_range.2 (by omega), by rw [if_pos h1]; exact hm⟩), ?_⟩
      obtain ⟨l, rfl, _⟩ := mem_ords.1 hm
      simp
  · rintro ⟨o, h, h0⟩
    obtain ⟨x, hx, hm⟩ := List.mem_flatMap.1 (mem_iso.2 h)
    split at hm
    · rename_i hok
      have hx0 : x = 0 := by
        obtain ⟨l, rfl, _⟩ := mem_ords.1 hm
        simpa using h0
      subst hx0
      refine ⟨hok, ?_⟩
      cases hl : ords (d + 1) (okB (d + 1) sa ra sb rb) d [0] with
      | nil => rw [List.nil_append, hl] at hm; cases hm
      | cons o L => rfl
    · cases hm
end Go.Proofs.YtlnmebjbinmeiaaDoor.fits
