/- As chain_last, for a last operation that waits for all others, some of them by way of one it waits for. No program in sight. -/
import Derived.Test.YtpcnoiigbmiejaaDoorChain
namespace Go.Proofs.YtpcnoiigbmiejaaDoor.chain
set_option linter.unusedVariables false
set_option linter.unusedSimpArgs false
open Go Go.RowKit Go.Proofs.YtpcnoiigbmiejaaDoor.lib Go.Proofs.YtpcnoiigbmiejaaDoor.flow
section
variable {P : Program} {S : World → Prop} {a : Act} {w : World} {H : Array Oper} {t : Oper} {md : Region.Mode} {Q : Exit → Act → World → Prop}
def waitsB (md : Region.Mode) (o : Oper) (j : Nat) : Bool := o.after.any fun e => Region.binds md e && e.on == j
def lastB2 (md : Region.Mode) (H : Array Oper) (t : Oper) : Bool :=
  ((List.range H.size).all fun j => waitsB md t j || (List.range H.size).any fun i => waitsB md t i && (H[i]?.any fun o => waitsB md o j)) && t.after.all fun e => decide (e.on < H.size)
/-- what is listed has all listed that it waits for -/
def Clo (md : Region.Mode) (H : Array Oper) (l : Array Bool) : Prop := ∀ i o, H[i]? = some o → l.getD i false = true → ∀ e ∈ o.after, Region.binds md e = true → l.getD e.on false = true
theorem waits_spec {o : Oper} {j : Nat} (h : waitsB md o j = true) : ∃ e ∈ o.after, Region.binds md e = true ∧ e.on = j := by
  obtain ⟨e, he, hb⟩ := Array.any_eq_true'.1 h
  simp only [Bool.and_eq_true, beq_iff_eq] at hb
  exact ⟨e, he, hb.1, hb.2⟩
theorem last2_lt (hB : lastB2 md H t = true) : ∀ e ∈ t.after, e.on < H.size := by
  simp only [lastB2, Bool.and_eq_true] at hB
  intro e he
  have := Array.all_eq_true_iff_forall_mem.1 hB.2 e he
  simpa using this
theorem ready_last2 {l : Array Bool} (hc : Clo md H l) (hB : lastB2 md H t = true) (h : H.size ∈ Region.ready md (H.push t) (l.push false)) : ∀ j, j < H.size → l.getD j false = true := by
  simp only [lastB2, Bool.and_eq_true] at hB
  intro j hj
  obtain ⟨_, o, ho, hall⟩ := mem_ready.1 h
  have e : (H.push t)[H.size]? = some t := by simp
  rw [e] at ho
  cases ho
  have hd : ∀ i, waitsB md t i = true → l.getD i false = true := fun i hi => by
    obtain ⟨x, hx, hb, rfl⟩ := waits_spec hi
    have := hall x hx hb
    rwa [getD_push_false] at this
  have h1 := List.all_eq_true.1 hB.1 j (List.mem_range.2 hj)
  rcases Bool.or_eq_true_iff.1 h1 with h2 | h2
  · exact hd j h2
  · obtain ⟨i, hi, h3⟩ := List.any_eq_true.1 h2
    have hi' := List.mem_range.1 hi
    have eo : H[i]? = some H[i] := by simp
    rw [eo] at h3
    simp only [Bool.and_eq_true, Option.any_some] at h3
    obtain ⟨x, hx, hb, rfl⟩ := waits_spec h3.2
    exact hc i _ eo (hd i h3.1) x hx hb
theorem last_done2 {Q : Exit → Act → World → Prop} (hT : lastB2 md H t = true) {g : Nat} {l : Array Bool} {a : Act} {w : World} (hs : l.size = H.size) (hall : ∀ j, j < H.size → l.getD j false = true)
    (h : wpList P (H.push t) Q [t] a w) : wpAny P md (H.push t) Q (g + 1) (l.push false) a w := by
  have hr : H.size ∈ Region.ready md (H.push t) (l.push false) := by
    rw [mem_ready]
    refine ⟨by simp [Array.getD_eq_getD_getElem?, ← hs], t, by simp, fun x hx hb => ?_⟩
    rw [getD_push_false]
    exact hall x.on (last2_lt hT x hx)
  refine ⟨fun h0 => (by rw [h0] at hr; cases hr), fun i hi => ?_⟩
  rcases ready_le hi with hlt | rfl
  · rw [ready_head hs hlt, none_of_all hall] at hi
    cases hi
  have h0 : (H.push t)[H.size]? = some t := by simp
  have hw : wpOp P (H.push t) Q H.size (wpList P (H.push t) Q []) a w := by unfold wpOp; simp only [h0]; exact h
  refine wpOp_mono (fun a' w' h' => ?_) hw
  have hn : Region.ready md (H.push t) ((l.push false).setIfInBounds H.size true) = [] := by
    refine none_of_all fun j hj => ?_
    simp only [Array.size_push] at hj
    by_cases hje : j = H.size
    · subst hje; simp [Array.getD_eq_getD_getElem?, ← hs]
    · rw [getD_set_ne false (by omega), getD_push_false]; exact hall j (by omega)
  have hq : Q .normal a' w' := by simpa [wpList] using h'
  cases g with
  | zero => exact ⟨hn, hq⟩
  | succ g => exact ⟨fun _ => hq, fun i hi => (by rw [hn] at hi; cases hi)⟩
theorem clo_set {l : Array Bool} (hs : l.size = H.size) (hc : Clo md H l) {i : Nat} (hr : i ∈ Region.ready md H l) : Clo md H (l.setIfInBounds i true) := by
  obtain ⟨_, o, ho, hall⟩ := mem_ready.1 hr
  have hlt := (Array.getElem?_eq_some_iff.1 ho).1
  have up : ∀ j, l.getD j false = true → (l.setIfInBounds i true).getD j false = true := fun j hj => by
    by_cases e : j = i
    · subst e; simp [Array.getD_eq_getD_getElem?, hs, hlt]
    · rw [getD_set_ne false (by omega)]; exact hj
  intro j oj hoj hl e he hb
  by_cases hji : j = i
  · subst hji
    rw [ho] at hoj; cases hoj
    exact up _ (hall e he hb)
  · rw [getD_set_ne false (by omega)] at hl
    exact up _ (hc j oj hoj hl e he hb)
theorem wpAny_of_held_last2 (hH : headB H = true) (hT : lastB2 md H t = true) : ∀ (fuel : Nat) (l : Array Bool) (a : Act) (w : World), l.size = H.size → Clo md H l →
    wpAnyH P md H (upF (fun a w => wpList P (H.push t) Q [t] a w)) S fuel l a w → wpAny P md (H.push t) Q (fuel + 1) (l.push false) a w
  | 0, l, a, w, hs, hc, h => last_done2 hT hs (all_of_none hs hH h.1) h.2
  | fuel + 1, l, a, w, hs, hc, h => by
    by_cases hr : Region.ready md H l = []
    · exact last_done2 hT hs (all_of_none hs hH hr) (h.1 hr)
    · have hnot : H.size ∉ Region.ready md (H.push t) (l.push false) := fun hx => hr (none_of_all (ready_last2 hc hT hx))
      refine ⟨fun h0 => ?_, fun i hi => ?_⟩
      · obtain ⟨j, hj⟩ := List.exists_mem_of_ne_nil _ hr
        have hlt : j < H.size := (Array.getElem?_eq_some_iff.1 (mem_ready.1 hj).2.choose_spec.1).1
        have := (ready_head (t := t) hs hlt).2 hj
        rw [h0] at this
        cases this
      · rcases ready_le hi with hlt | rfl
        · have hri := (ready_head hs hlt).1 hi
          have h2 := h.2 i hri
          refine wpOp_up (fun a' w' h' => ?_) (wpOp_push (t := t) hH hlt h2)
          have e : (l.push false).setIfInBounds i true = (l.setIfInBounds i true).push false := by
            apply Array.ext_getElem?
            intro k
            simp only [Array.getElem?_push, Array.getElem?_setIfInBounds, Array.size_setIfInBounds, Array.size_push]
            by_cases hik : i = k
            · subst hik; simp [show i < l.size by omega, show i ≠ l.size by omega, show i < l.size + 1 by omega]
            · simp [hik]
          rw [e]
          exact wpAny_of_held_last2 hH hT fuel _ a' w' (by simpa using hs) (clo_set hs hc hri) h'.2
        · exact absurd hi hnot
theorem chain_last2 {id : Nat} {L : List Oper} (segs : List (List Bool × Nat)) (m : List Bool) (hm : P.follows .mixedOrders = true) (hne : L.isEmpty = false) (hn : Region.noSelect L.dropLast.toArray = true)
    (hH : headB L.dropLast.toArray = true) (hT : L.getLast?.toList.all (lastB2 .any L.dropLast.toArray) = true)
    (hB : (chainB .any L.dropLast.toArray segs m (Array.replicate L.dropLast.length false) && decide (stepsB segs m ≤ L.dropLast.length)) = true) (hS : S w.drew)
    (h : wpSegs P L.dropLast.toArray (upF (fun a w => wpList P L.toArray Q L.getLast?.toList a w)) S segs m a w.drew) : (Code.region id L.toArray true).wp P Q a w := by
  simp only [Bool.and_eq_true, decide_eq_true_eq] at hB
  obtain ⟨t, h1, h2⟩ := split_last (L := L) (by rintro rfl; simp at hne)
  refine wp_region_any hm ?_
  have hk := held_chain (md := .any) hn (fun c d v a w h => h.elim) segs m (Array.replicate L.dropLast.length false) a w.drew (L.dropLast.length - stepsB segs m) hB.1 hS h
  rw [show L.dropLast.length - stepsB segs m + stepsB segs m = L.dropLast.length from by omega, h1] at hk
  rw [h1] at hT
  have e : L.toArray = L.dropLast.toArray.push t := by rw [List.push_toArray, ← h2]
  rw [e] at hk ⊢
  have hk2 := wpAny_of_held_last2 (t := t) hH (by simpa using hT) L.dropLast.length (Array.replicate L.dropLast.length false) a w.drew (by simp) (fun i o _ hl => by
    simp only [Array.getD_eq_getD_getElem?, Array.getElem?_replicate] at hl
    split at hl <;> simp at hl) hk
  have e3 : (Array.replicate L.dropLast.length false).push false = Array.replicate (L.dropLast.toArray.push t).size false := by
    apply Array.ext_getElem?
    intro k
    simp only [Array.getElem?_push, Array.getElem?_replicate, Array.size_replicate, Array.size_push, List.size_toArray]
    split <;> split <;> first | rfl | (exfalso; omega) | skip
    all_goals first | rfl | (rename_i h1 h2; simp at h2; omega) | (split <;> first | rfl | omega)
  rw [e3] at hk2
  have e4 : (L.dropLast.toArray.push t).size = L.dropLast.length + 1 := by simp
  rw [e4] at hk2 ⊢
  exact hk2
end
end Go.Proofs.YtpcnoiigbmiejaaDoor.chain
