/- A region that draws its order, whose calls may make memory: one walk in the order of the text, over a class of worlds; a last operation that waits for all others comes behind. No program in sight. -/
import Derived.WalkKit
import Derived.Deep.Quiet
import Derived.BigQuiet
import Derived.Test.YtpcnoiigbmiejaaDoorLib
namespace Go.Proofs.YtpcnoiigbmiejaaDoor.flow
set_option linter.unusedVariables false
set_option linter.unusedSimpArgs false
open Go Go.RowKit Go.Proofs.YtpcnoiigbmiejaaDoor.lib

/-- a world that meets S -/
structure Wd (S : World → Prop) : Type where
  w : World
  ok : S w
/-- one world more of those that have all that w has -/
theorem Wd.on {w : World} {X W : World} (h : Hid (Below w.heap.size w X)) (hb : Below X.heap.size X W) : ∃ Y : Wd (fun W => Hid (Below w.heap.size w W)), W = Y.w :=
  ⟨⟨W, Lib.hid (h.out.trans (hb.mono h.out.size))⟩, rfl⟩

section
variable {P : Program} {md : Region.Mode} {C : World → Prop}

/-- what is checked of a region before its last operation -/
def headB (H : Array Oper) : Bool :=
  (List.range H.size).all fun i => match H[i]? with
    | none => true
    | some o => o.after.all (fun e => decide (e.on < i)) && (match o.guard with | some g => decide (g.1 < H.size) | none => true)
def lastB (md : Region.Mode) (H : Array Oper) (t : Oper) : Bool :=
  (List.range H.size).all (fun j => t.after.any fun e => Region.binds md e && e.on == j) && t.after.all (fun e => decide (e.on < H.size))

theorem headB_spec {H : Array Oper} (h : headB H = true) {i : Nat} {o : Oper} (hi : H[i]? = some o) :
    (∀ e ∈ o.after, e.on < i) ∧ (∀ g, o.guard = some g → g.1 < H.size) := by
  have hlt : i < H.size := (Array.getElem?_eq_some_iff.1 hi).1
  have h1 := List.all_eq_true.1 h i (List.mem_range.2 hlt)
  rw [hi] at h1
  simp only [Bool.and_eq_true] at h1
  refine ⟨fun e he => ?_, fun g hg => ?_⟩
  · have := Array.all_eq_true_iff_forall_mem.1 h1.1 e he
    simpa using this
  · have h2 := h1.2
    rw [hg] at h2
    simpa using h2

theorem lastB_spec {H : Array Oper} {t : Oper} (h : lastB md H t = true) : (∀ j, j < H.size → ∃ e ∈ t.after, Region.binds md e = true ∧ e.on = j) ∧ ∀ e ∈ t.after, e.on < H.size := by
  simp only [lastB, Bool.and_eq_true] at h
  refine ⟨fun j hj => ?_, fun e he => ?_⟩
  · have h1 := List.all_eq_true.1 h.1 j (List.mem_range.2 hj)
    obtain ⟨e, he, hb⟩ := Array.any_eq_true'.1 h1
    simp only [Bool.and_eq_true, beq_iff_eq] at hb
    exact ⟨e, he, hb.1, hb.2⟩
  · have := Array.all_eq_true_iff_forall_mem.1 h.2 e he
    simpa using this

variable {H : Array Oper} {t : Oper}

theorem getD_push_lt {l : Array Bool} {j : Nat} (h : j < l.size) (d : Bool) : (l.push false).getD j d = l.getD j d := by
  simp only [Array.getD_eq_getD_getElem?, Array.getElem?_push]
  rw [if_neg (by omega)]
theorem getD_push_false {l : Array Bool} {j : Nat} : (l.push false).getD j false = l.getD j false := by
  simp only [Array.getD_eq_getD_getElem?, Array.getElem?_push]
  split
  · rename_i h; subst h; simp
  · rfl

/-- one of the head may come up -/
theorem ready_head {l : Array Bool} (hs : l.size = H.size) {j : Nat} (hj : j < H.size) : j ∈ Region.ready md (H.push t) (l.push false) ↔ j ∈ Region.ready md H l := by
  rw [mem_ready, mem_ready, getD_push_lt (by omega)]
  have e : (H.push t)[j]? = H[j]? := by rw [Array.getElem?_push, if_neg (by omega)]
  rw [e]
  simp only [getD_push_false]
theorem ready_last {l : Array Bool} (hs : l.size = H.size) (hB : lastB md H t = true) : H.size ∈ Region.ready md (H.push t) (l.push false) ↔ ∀ j, j < H.size → l.getD j false = true := by
  obtain ⟨h1, h2⟩ := lastB_spec hB
  rw [mem_ready]
  have e : (H.push t)[H.size]? = some t := by simp
  constructor
  · rintro ⟨_, o, ho, hall⟩ j hj
    rw [e] at ho
    cases ho
    obtain ⟨x, hx, hb, rfl⟩ := h1 j hj
    have := hall x hx hb
    rwa [getD_push_false] at this
  · intro h
    refine ⟨by simp [Array.getD_eq_getD_getElem?, ← hs], t, e, fun x hx hb => ?_⟩
    rw [getD_push_false]
    exact h x.on (h2 x hx)
theorem ready_le {l : Array Bool} {j : Nat} (h : j ∈ Region.ready md (H.push t) l) : j < H.size ∨ j = H.size := by
  obtain ⟨_, o, ho, _⟩ := mem_ready.1 h
  have := (Array.getElem?_eq_some_iff.1 ho).1
  simp at this
  omega
/-- nothing of the head may come up: all of it has -/
theorem all_of_none {l : Array Bool} (hs : l.size = H.size) (hB : headB H = true) (h : Region.ready md H l = []) : ∀ j, j < H.size → l.getD j false = true := by
  intro j
  induction j using Nat.strongRecOn with
  | _ j ih =>
    intro hj
    cases hl : l.getD j false with
    | true => rfl
    | false =>
      exfalso
      have : j ∈ Region.ready md H l := by
        rw [mem_ready]
        refine ⟨?_, H[j], by simp, fun e he _ => ?_⟩
        · have hjl : j < l.size := by omega
          simp [Array.getD_eq_getD_getElem?, hjl] at hl ⊢; exact hl
        · have := (headB_spec hB (show H[j]? = some H[j] by simp)).1 e he
          exact ih e.on this (by omega)
      rw [h] at this
      cases this
theorem none_of_all {l : Array Bool} (h : ∀ j, j < H.size → l.getD j false = true) : Region.ready md H l = [] := by
  cases hr : Region.ready md H l with
  | nil => rfl
  | cons j r =>
    exfalso
    have hj : j ∈ Region.ready md H l := by rw [hr]; exact List.mem_cons_self
    obtain ⟨h1, o, ho, _⟩ := mem_ready.1 hj
    have hlt := (Array.getElem?_eq_some_iff.1 ho).1
    have h2 := h j hlt
    by_cases hjl : j < l.size
    · simp [Array.getD_eq_getD_getElem?, hjl] at h1 h2; rw [h1] at h2; cases h2
    · simp [Array.getD_eq_getD_getElem?, Array.getElem?_eq_none (Nat.le_of_not_lt hjl)] at h2
theorem yielded_push {tmps : Array Value} {j : Nat} (h : j < H.size) : yielded (H.push t) tmps j = yielded H tmps j := by
  unfold yielded
  rw [Array.getElem?_push, if_neg (by omega)]

theorem yielded_wanted {o : Oper} {tmps : Array Value} (hg : ∀ g, o.guard = some g → g.1 < H.size) : Region.wanted o (yielded (H.push t) tmps) = Region.wanted o (yielded H tmps) := by
  unfold Region.wanted
  cases hq : o.guard with
  | none => rfl
  | some g =>
    have hlt := hg g hq
    simp only [yielded_push hlt]
theorem qOp_push {i : Nat} {K : Act → Prop} {a : Act} (hH : headB H = true) (hi : i < H.size) (h : qOp P H C i K a) : qOp P (H.push t) C i K a := by
  unfold qOp at *
  have e : (H.push t)[i]? = H[i]? := by rw [Array.getElem?_push, if_neg (by omega)]
  have e2 : H[i]? = some H[i] := by simp
  rw [e]
  rw [e2] at h ⊢
  simp only [yielded_wanted (t := t) (headB_spec hH e2).2]
  exact h
theorem last_done {Q : Exit → Act → World → Prop} (hT : lastB md H t = true) {g : Nat} {l : Array Bool} {a : Act} {w : World} (hs : l.size = H.size) (hall : ∀ j, j < H.size → l.getD j false = true)
    (h : wpList P (H.push t) Q [t] a w) : wpAny P md (H.push t) Q (g + 1) (l.push false) a w := by
  have hr : H.size ∈ Region.ready md (H.push t) (l.push false) := (ready_last hs hT).2 hall
  refine ⟨fun h0 => (by rw [h0] at hr; cases hr), fun i hi => ?_⟩
  rcases ready_le hi with hlt | rfl
  · rw [ready_head hs hlt, none_of_all hall] at hi
    cases hi
  have h0 : (H.push t)[H.size]? = some t := by simp
  have hw : wpOp P (H.push t) Q H.size (wpList P (H.push t) Q []) a w := by unfold wpOp; simp only [h0]; exact h
  refine wpOp_mono (fun a' w' h' => ?_) hw
  have hn : Region.ready md (H.push t) ((l.push false).setIfInBounds H.size true) = [] := by
    refine none_of_all fun j hj => ?_
    simp only [Array.size_push] at hj
    by_cases hje : j = H.size
    · subst hje; simp [Array.getD_eq_getD_getElem?, ← hs]
    · rw [getD_set_ne false (by omega), getD_push_false]; exact hall j (by omega)
  have hq : Q .normal a' w' := by simpa [wpList] using h'
  cases g with
  | zero => exact ⟨hn, hq⟩
  | succ g => exact ⟨fun _ => hq, fun i hi => (by rw [hn] at hi; cases hi)⟩

theorem wpAny_of_quiet_last {Q : Exit → Act → World → Prop} (hH : headB H = true) (hT : lastB md H t = true) :
    ∀ (fuel : Nat) (l : Array Bool) (a : Act) (w : World), l.size = H.size → C w →
    wpAnyQ P md H C (fun a' => ∀ w', C w' → wpList P (H.push t) Q [t] a' w') fuel l a →
    wpAny P md (H.push t) Q (fuel + 1) (l.push false) a w
  | 0, l, a, w, hs, hw, h => last_done hT hs (all_of_none hs hH h.1) (h.2 w hw)
  | fuel + 1, l, a, w, hs, hw, h => by
    by_cases hr : Region.ready md H l = []
    · exact last_done hT hs (all_of_none hs hH hr) (h.1 hr w hw)
    · have hnot : H.size ∉ Region.ready md (H.push t) (l.push false) := fun hc => hr (none_of_all ((ready_last hs hT).1 hc))
      refine ⟨fun h0 => ?_, fun i hi => ?_⟩
      · obtain ⟨j, hj⟩ := List.exists_mem_of_ne_nil _ hr
        have hlt : j < H.size := (Array.getElem?_eq_some_iff.1 (mem_ready.1 hj).2.choose_spec.1).1
        have := (ready_head (t := t) hs hlt).2 hj
        rw [h0] at this
        cases this
      · rcases ready_le hi with hlt | rfl
        · have h2 := h.2 i ((ready_head hs hlt).1 hi)
          refine wpOp_of_qOp hw (fun a' w' hw' h' => ?_) (qOp_push (t := t) hH hlt h2)
          have e : (l.push false).setIfInBounds i true = (l.setIfInBounds i true).push false := by
            apply Array.ext_getElem?
            intro k
            simp only [Array.getElem?_push, Array.getElem?_setIfInBounds, Array.size_setIfInBounds, Array.size_push]
            by_cases hik : i = k
            · subst hik; simp [show i < l.size by omega, show i ≠ l.size by omega, show i < l.size + 1 by omega]
            · simp [hik]
          rw [e]
          exact wpAny_of_quiet_last hH hT fuel _ a' w' (by simpa using hs) hw' h'
        · exact absurd hi hnot

/-- a region that draws its order: all but the last operation quiet in the class, the last one waits for all of them -/
theorem wp_region_cls_last {id : Nat} {Q : Exit → Act → World → Prop} {a : Act} {w : World} {L Hl : List Oper} {t : Oper} (hm : P.follows .mixedOrders = true) (hL : L = Hl ++ [t])
    (hB : Region.lexB .any Hl.toArray = true) (hH : headB Hl.toArray = true) (hT : lastB .any Hl.toArray t = true) (hC : C { w with drawn := w.drawn + 1 })
    (h : wpQuiet P Hl.toArray C (fun a' => ∀ w', C w' → wpList P L.toArray Q [t] a' w') Hl a) : (Code.region id L.toArray true).wp P Q a w := by
  subst hL
  simp only [Region.lexB, Bool.and_eq_true] at hB
  refine wp_region_any hm ?_
  have h1 := wpAnyQ_lex (C := C) (md := .any) hB.1 Hl 0 (Array.replicate Hl.toArray.size false) a (by simp) (by simpa using hB.2) h
  have e : (Hl ++ [t]).toArray = Hl.toArray.push t := by simp
  rw [e] at h1 ⊢
  have h2 := wpAny_of_quiet_last (P := P) hH hT Hl.length (Array.replicate Hl.toArray.size false) a _ (by simp) hC h1
  have e3 : Array.replicate (Hl.toArray.push t).size false = (Array.replicate Hl.toArray.size false).push false := by
    apply Array.ext_getElem?
    intro k
    simp [Array.getElem?_push, Array.getElem?_replicate]
    split <;> split <;> first | rfl | (simp; omega) | skip
    all_goals omega
  rw [e3]
  simpa using h2

theorem split_last {α : Type} : ∀ {L : List α}, L ≠ [] → ∃ t, L.getLast?.toList = [t] ∧ L = L.dropLast ++ [t]
  | L, h => ⟨L.getLast h, by rw [List.getLast?_eq_some_getLast h]; rfl, (List.dropLast_concat_getLast h).symm⟩

/-- the class of the worlds that meet S -/
theorem flow_last {S : World → Prop} {id : Nat} {Q : Exit → Act → World → Prop} {a : Act} {w : World} {L : List Oper} (hm : P.follows .mixedOrders = true) (hne : L.isEmpty = false)
    (hB : Region.lexB .any L.dropLast.toArray = true) (hH : headB L.dropLast.toArray = true) (hT : L.getLast?.toList.all (lastB .any L.dropLast.toArray) = true) (hS : S { w with drawn := w.drawn + 1 })
    (h : wpQuiet P L.dropLast.toArray (fun W => ∃ X : Wd S, W = X.w) (fun a' => ∀ W, (∃ X : Wd S, W = X.w) → wpList P L.toArray Q L.getLast?.toList a' W) L.dropLast a) : (Code.region id L.toArray true).wp P Q a w := by
  obtain ⟨t, h1, h2⟩ := split_last (L := L) (by rintro rfl; simp at hne)
  rw [h1] at h hT
  exact wp_region_cls_last hm h2 hB hH (by simpa using hT) ⟨⟨_, hS⟩, rfl⟩ h
theorem flow_all {S : World → Prop} {id : Nat} {Q : Exit → Act → World → Prop} {a : Act} {w : World} {L : List Oper} (hm : P.follows .mixedOrders = true)
    (hB : Region.lexB .any L.toArray = true) (hS : S { w with drawn := w.drawn + 1 })
    (h : wpQuiet P L.toArray (fun W => ∃ X : Wd S, W = X.w) (fun a' => ∀ W, (∃ X : Wd S, W = X.w) → Q .normal a' W) L a) : (Code.region id L.toArray true).wp P Q a w :=
  wp_region_quiet (C := fun W => ∃ X : Wd S, W = X.w) hm hB ⟨⟨_, hS⟩, rfl⟩ (by simpa using h)
end
end Go.Proofs.YtpcnoiigbmiejaaDoor.flow
