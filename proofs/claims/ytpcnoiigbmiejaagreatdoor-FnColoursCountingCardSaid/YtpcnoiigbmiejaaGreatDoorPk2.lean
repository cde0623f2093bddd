/- Several texts in one: Tree, ChainL, Float. -/
import Derived.Test.YtpcnoiigbmiejaaGreatDoorChain
/- A region that draws its order, in which at some points two operations that make memory may come up: both ways are walked. No program in sight. -/
namespace Go.Proofs.YtpcnoiigbmiejaaGreatDoor.chain
set_option linter.unusedVariables false
set_option linter.unusedSimpArgs false
open Go Go.RowKit Go.Proofs.YtpcnoiigbmiejaaGreatDoor.lib Go.Proofs.YtpcnoiigbmiejaaGreatDoor.flow

/-- lights and what comes up behind them: nothing, one operation, one of two -/
inductive Tr : Type where
  | leaf (m : List Bool) : Tr
  | one (m : List Bool) (h : Nat) (t : Tr) : Tr
  | two (m : List Bool) (h1 : Nat) (t1 : Tr) (h2 : Nat) (t2 : Tr) : Tr

section
variable {P : Program} {S : World → Prop} {a : Act} {w : World} {ops : Array Oper} {md : Region.Mode} {Q : Exit → Act → World → Prop}
def treeB (md : Region.Mode) (ops : Array Oper) : Tr → Array Bool → Bool
  | .leaf m, l => decide (m.length ≤ ops.size) && (segB md ops (idxB m 0) l).1 && (Region.ready md ops (segB md ops (idxB m 0) l).2).isEmpty
  | .one m h t, l => decide (m.length ≤ ops.size) && (segB md ops (idxB m 0) l).1 && (Region.ready md ops (segB md ops (idxB m 0) l).2 == [h]) && treeB md ops t ((segB md ops (idxB m 0) l).2.setIfInBounds h true)
  | .two m h1 t1 h2 t2, l => decide (m.length ≤ ops.size) && (segB md ops (idxB m 0) l).1 && (Region.ready md ops (segB md ops (idxB m 0) l).2 == [h1, h2]) && treeB md ops t1 ((segB md ops (idxB m 0) l).2.setIfInBounds h1 true) && treeB md ops t2 ((segB md ops (idxB m 0) l).2.setIfInBounds h2 true)
def deepB : Tr → Nat
  | .leaf m => (idxB m 0).length
  | .one m _ t => deepB t + 1 + (idxB m 0).length
  | .two m _ t1 _ t2 => max (deepB t1) (deepB t2) + 1 + (idxB m 0).length
def wpTr (P : Program) (ops : Array Oper) (Q : Exit → Act → World → Prop) (S : World → Prop) : Tr → Act → World → Prop
  | .leaf m, a, w => wpQuiet P ops (Cls S) (fun a' => Q .normal a' w) (pickB m ops.toList) a
  | .one m h t, a, w => wpQuiet P ops (Cls S) (fun a' => ∀ K : Act → World → Prop, (∀ a2 w2, S w2 → wpTr P ops Q S t a2 w2 → K a2 w2) → wpList P ops (upF K) (ops[h]?).toList a' w) (pickB m ops.toList) a
  | .two m h1 t1 h2 t2, a, w => wpQuiet P ops (Cls S) (fun a' => (∀ K : Act → World → Prop, (∀ a2 w2, S w2 → wpTr P ops Q S t1 a2 w2 → K a2 w2) → wpList P ops (upF K) (ops[h1]?).toList a' w) ∧
      (∀ K : Act → World → Prop, (∀ a2 w2, S w2 → wpTr P ops Q S t2 a2 w2 → K a2 w2) → wpList P ops (upF K) (ops[h2]?).toList a' w)) (pickB m ops.toList) a
theorem tr_mono : ∀ (t : Tr) (a : Act) (w : World), wpTr P ops Q S t a w → wpTr P ops (NoPanic Q) S t a w
  | .leaf m, a, w, h => quiet_mono (fun a' hq => hq) _ _ h
  | .one m hv t, a, w, h => by
    unfold wpTr at h ⊢
    exact quiet_mono (fun a' hk K hK => hk K (fun a2 w2 hS hw => hK a2 w2 hS (tr_mono t a2 w2 hw))) _ _ h
  | .two m h1 t1 h2 t2, a, w, h => by
    unfold wpTr at h ⊢
    exact quiet_mono (fun a' hk => ⟨fun K hK => hk.1 K (fun a2 w2 hS hw => hK a2 w2 hS (tr_mono t1 a2 w2 hw)), fun K hK => hk.2 K (fun a2 w2 hS hw => hK a2 w2 hS (tr_mono t2 a2 w2 hw))⟩) _ _ h

theorem held_tree (hs : Region.noSelect ops = true) (hQ : ∀ c d v a w, Q (.panic c) (Act.put a d v) w → Q (.panic c) a w) : ∀ (t : Tr) (listed : Array Bool) (a : Act) (w : World) (fuel : Nat),
    treeB md ops t listed = true → deepB t ≤ fuel → S w → wpTr P ops Q S t a w → wpAnyH P md ops Q S fuel listed a w
  | .leaf m, listed, a, w, fuel, hB, hf, hS, h => by
    simp only [treeB, Bool.and_eq_true, decide_eq_true_eq] at hB
    obtain ⟨⟨hm, h1⟩, h2⟩ := hB
    have hr : Region.ready md ops (segB md ops (idxB m 0) listed).2 = [] := by simpa using h2
    simp only [deepB] at hf
    obtain ⟨f2, rfl⟩ : ∃ f2, fuel = f2 + (idxB m 0).length := ⟨fuel - (idxB m 0).length, by omega⟩
    refine held_seg hs hQ (idxB m 0) (pickB m ops.toList) listed a w _ (by simpa using idx_pick m 0 (by omega)) h1 hS ?_
    unfold wpTr at h
    have e : ∀ a', Q .normal a' w → wpAnyH P md ops Q S f2 (segB md ops (idxB m 0) listed).2 a' w := fun a' hq => by
      cases f2 with
      | zero => exact ⟨hr, hq⟩
      | succ f => exact ⟨fun _ => hq, fun i hi => by rw [hr] at hi; cases hi⟩
    exact quiet_mono e _ _ h
  | .one m hv t, listed, a, w, fuel, hB, hf, hS, h => by
    simp only [treeB, Bool.and_eq_true, decide_eq_true_eq] at hB
    obtain ⟨⟨⟨hm, h1⟩, h2⟩, h3⟩ := hB
    have hr : Region.ready md ops (segB md ops (idxB m 0) listed).2 = [hv] := by simpa using h2
    have hlt : ∃ o, ops[hv]? = some o := by
      have : hv ∈ Region.ready md ops (segB md ops (idxB m 0) listed).2 := by rw [hr]; exact List.mem_singleton_self _
      obtain ⟨_, o, ho, _⟩ := mem_ready.1 this
      exact ⟨o, ho⟩
    obtain ⟨o, ho⟩ := hlt
    simp only [deepB] at hf
    obtain ⟨f2, rfl⟩ : ∃ f2, fuel = (f2 + 1) + (idxB m 0).length := ⟨fuel - (idxB m 0).length - 1, by omega⟩
    refine held_seg hs hQ (idxB m 0) (pickB m ops.toList) listed a w _ (by simpa using idx_pick m 0 (by omega)) h1 hS ?_
    unfold wpTr at h
    refine quiet_mono (fun a' hk => ?_) _ _ h
    refine wpAnyH_all hr (by simp) fun i hi => ?_
    rw [List.mem_singleton.1 hi]
    exact wpOp_of_list ho (hk _ (fun a2 w2 hS2 hw2 => ⟨hS2, held_tree hs hQ t _ a2 w2 f2 h3 (by omega) hS2 hw2⟩))
  | .two m g1 t1 g2 t2, listed, a, w, fuel, hB, hf, hS, h => by
    simp only [treeB, Bool.and_eq_true, decide_eq_true_eq] at hB
    obtain ⟨⟨⟨⟨hm, h1⟩, h2⟩, h3⟩, h4⟩ := hB
    have hr : Region.ready md ops (segB md ops (idxB m 0) listed).2 = [g1, g2] := by simpa using h2
    have hlt : ∀ g, g ∈ [g1, g2] → ∃ o, ops[g]? = some o := by
      intro g hg
      rw [← hr] at hg
      obtain ⟨_, o, ho, _⟩ := mem_ready.1 hg
      exact ⟨o, ho⟩
    obtain ⟨o1, ho1⟩ := hlt g1 (by simp)
    obtain ⟨o2, ho2⟩ := hlt g2 (by simp)
    simp only [deepB] at hf
    obtain ⟨f2, rfl⟩ : ∃ f2, fuel = (f2 + 1) + (idxB m 0).length := ⟨fuel - (idxB m 0).length - 1, by omega⟩
    refine held_seg hs hQ (idxB m 0) (pickB m ops.toList) listed a w _ (by simpa using idx_pick m 0 (by omega)) h1 hS ?_
    unfold wpTr at h
    refine quiet_mono (fun a' hk => ?_) _ _ h
    refine wpAnyH_all hr (by simp) fun i hi => ?_
    rcases List.mem_cons.1 hi with rfl | hi
    · exact wpOp_of_list ho1 (hk.1 _ (fun a2 w2 hS2 hw2 => ⟨hS2, held_tree hs hQ t1 _ a2 w2 f2 h3 (by omega) hS2 hw2⟩))
    · rw [List.mem_singleton.1 hi]
      exact wpOp_of_list ho2 (hk.2 _ (fun a2 w2 hS2 hw2 => ⟨hS2, held_tree hs hQ t2 _ a2 w2 f2 h4 (by omega) hS2 hw2⟩))

theorem tree {id : Nat} {L : List Oper} (t : Tr) (hm : P.follows .mixedOrders = true) (hn : Region.noSelect L.toArray = true)
    (hB : (treeB .any L.toArray t (Array.replicate L.length false) && decide (deepB t ≤ L.length)) = true) (hS : S w.drew) (h : wpTr P L.toArray Q S t a w.drew) : (Code.region id L.toArray true).wp P Q a w := by
  simp only [Bool.and_eq_true, decide_eq_true_eq] at hB
  refine wp_region_noPanic ?_
  refine wp_region_held (S := S) hm ?_
  have hk := held_tree (Q := NoPanic Q) (md := .any) hn (fun c d v a w h => h) t (Array.replicate L.length false) a w.drew L.length hB.1 hB.2 hS (tr_mono t a w.drew h)
  simpa using hk
end
end Go.Proofs.YtpcnoiigbmiejaaGreatDoor.chain

/- As chain_last, for a last operation that waits for all others, some of them by way of one it waits for. No program in sight. -/
namespace Go.Proofs.YtpcnoiigbmiejaaGreatDoor.chain
set_option linter.unusedVariables false
set_option linter.unusedSimpArgs false
open Go Go.RowKit Go.Proofs.YtpcnoiigbmiejaaGreatDoor.lib Go.Proofs.YtpcnoiigbmiejaaGreatDoor.flow
section
variable {P : Program} {S : World → Prop} {a : Act} {w : World} {H : Array Oper} {t : Oper} {md : Region.Mode} {Q : Exit → Act → World → Prop}
def waitsB (md : Region.Mode) (o : Oper) (j : Nat) : Bool := o.after.any fun e => Region.binds md e && e.on == j
def lastB2 (md : Region.Mode) (H : Array Oper) (t : Oper) : Bool :=
  ((List.range H.size).all fun j => waitsB md t j || (List.range H.size).any fun i => waitsB md t i && (H[i]?.any fun o => waitsB md o j)) && t.after.all fun e => decide (e.on < H.size)
/-- what is listed has all listed that it waits for -/
def Clo (md : Region.Mode) (H : Array Oper) (l : Array Bool) : Prop := ∀ i o, H[i]? = some o → l.getD i false = true → ∀ e ∈ o.after, Region.binds md e = true → l.getD e.on false = true
theorem waits_spec {o : Oper} {j : Nat} (h : waitsB md o j = true) : ∃ e ∈ o.after, Region.binds md e = true ∧ e.on = j := by
  obtain ⟨e, he, hb⟩ := Array.any_eq_true'.1 h
  simp only [Bool.and_eq_true, beq_iff_eq] at hb
  exact ⟨e, he, hb.1, hb.2⟩
theorem last2_lt (hB : lastB2 md H t = true) : ∀ e ∈ t.after, e.on < H.size := by
  simp only [lastB2, Bool.and_eq_true] at hB
  intro e he
  have := Array.all_eq_true_iff_forall_mem.1 hB.2 e he
  simpa using this
theorem ready_last2 {l : Array Bool} (hc : Clo md H l) (hB : lastB2 md H t = true) (h : H.size ∈ Region.ready md (H.push t) (l.push false)) : ∀ j, j < H.size → l.getD j false = true := by
  simp only [lastB2, Bool.and_eq_true] at hB
  intro j hj
  obtain ⟨_, o, ho, hall⟩ := mem_ready.1 h
  have e : (H.push t)[H.size]? = some t := by simp
  rw [e] at ho
  cases ho
  have hd : ∀ i, waitsB md t i = true → l.getD i false = true := fun i hi => by
    obtain ⟨x, hx, hb, rfl⟩ := waits_spec hi
    have := hall x hx hb
    rwa [getD_push_false] at this
  have h1 := List.all_eq_true.1 hB.1 j (List.mem_range.2 hj)
  rcases Bool.or_eq_true_iff.1 h1 with h2 | h2
  · exact hd j h2
  · obtain ⟨i, hi, h3⟩ := List.any_eq_true.1 h2
    have hi' := List.mem_range.1 hi
    have eo : H[i]? = some H[i] := by simp
    rw [eo] at h3
    simp only [Bool.and_eq_true, Option.any_some] at h3
    obtain ⟨x, hx, hb, rfl⟩ := waits_spec h3.2
    exact hc i _ eo (hd i h3.1) x hx hb
theorem last_done2 {Q : Exit → Act → World → Prop} (hT : lastB2 md H t = true) {g : Nat} {l : Array Bool} {a : Act} {w : World} (hs : l.size = H.size) (hall : ∀ j, j < H.size → l.getD j false = true)
    (h : wpList P (H.push t) Q [t] a w) : wpAny P md (H.push t) Q (g + 1) (l.push false) a w := by
  have hr : H.size ∈ Region.ready md (H.push t) (l.push false) := by
    rw [mem_ready]
    refine ⟨by simp [Array.getD_eq_getD_getElem?, ← hs], t, by simp, fun x hx hb => ?_⟩
    rw [getD_push_false]
    exact hall x.on (last2_lt hT x hx)
  refine ⟨fun h0 => (by rw [h0] at hr; cases hr), fun i hi => ?_⟩
  rcases ready_le hi with hlt | rfl
  · rw [ready_head hs hlt, none_of_all hall] at hi
    cases hi
  have h0 : (H.push t)[H.size]? = some t := by simp
  have hw : wpOp P (H.push t) Q H.size (wpList P (H.push t) Q []) a w := by unfold wpOp; simp only [h0]; exact h
  refine wpOp_mono (fun a' w' h' => ?_) hw
  have hn : Region.ready md (H.push t) ((l.push false).setIfInBounds H.size true) = [] := by
    refine none_of_all fun j hj => ?_
    simp only [Array.size_push] at hj
    by_cases hje : j = H.size
    · subst hje; simp [Array.getD_eq_getD_getElem?, ← hs]
    · rw [getD_set_ne false (by omega), getD_push_false]; exact hall j (by omega)
  have hq : Q .normal a' w' := by simpa [wpList] using h'
  cases g with
  | zero => exact ⟨hn, hq⟩
  | succ g => exact ⟨fun _ => hq, fun i hi => (by rw [hn] at hi; cases hi)⟩
theorem clo_set {l : Array Bool} (hs : l.size = H.size) (hc : Clo md H l) {i : Nat} (hr : i ∈ Region.ready md H l) : Clo md H (l.setIfInBounds i true) := by
  obtain ⟨_, o, ho, hall⟩ := mem_ready.1 hr
  have hlt := (Array.getElem?_eq_some_iff.1 ho).1
  have up : ∀ j, l.getD j false = true → (l.setIfInBounds i true).getD j false = true := fun j hj => by
    by_cases e : j = i
    · subst e; simp [Array.getD_eq_getD_getElem?, hs, hlt]
    · rw [getD_set_ne false (by omega)]; exact hj
  intro j oj hoj hl e he hb
  by_cases hji : j = i
  · subst hji
    rw [ho] at hoj; cases hoj
    exact up _ (hall e he hb)
  · rw [getD_set_ne false (by omega)] at hl
    exact up _ (hc j oj hoj hl e he hb)
theorem wpAny_of_held_last2 (hH : headB H = true) (hT : lastB2 md H t = true) : ∀ (fuel : Nat) (l : Array Bool) (a : Act) (w : World), l.size = H.size → Clo md H l →
    wpAnyH P md H (upF (fun a w => wpList P (H.push t) Q [t] a w)) S fuel l a w → wpAny P md (H.push t) Q (fuel + 1) (l.push false) a w
  | 0, l, a, w, hs, hc, h => last_done2 hT hs (all_of_none hs hH h.1) h.2
  | fuel + 1, l, a, w, hs, hc, h => by
    by_cases hr : Region.ready md H l = []
    · exact last_done2 hT hs (all_of_none hs hH hr) (h.1 hr)
    · have hnot : H.size ∉ Region.ready md (H.push t) (l.push false) := fun hx => hr (none_of_all (ready_last2 hc hT hx))
      refine ⟨fun h0 => ?_, fun i hi => ?_⟩
      · obtain ⟨j, hj⟩ := List.exists_mem_of_ne_nil _ hr
        have hlt : j < H.size := (Array.getElem?_eq_some_iff.1 (mem_ready.1 hj).2.choose_spec.1).1
        have := (ready_head (t := t) hs hlt).2 hj
        rw [h0] at this
        cases this
      · rcases ready_le hi with hlt | rfl
        · have hri := (ready_head hs hlt).1 hi
          have h2 := h.2 i hri
          refine wpOp_up (fun a' w' h' => ?_) (wpOp_push (t := t) hH hlt h2)
          have e : (l.push false).setIfInBounds i true = (l.setIfInBounds i true).push false := by
            apply Array.ext_getElem?
            intro k
            simp only [Array.getElem?_push, Array.getElem?_setIfInBounds, Array.size_setIfInBounds, Array.size_push]
            by_cases hik : i = k
            · subst hik; simp [show i < l.size by omega, show i ≠ l.size by omega, show i < l.size + 1 by omega]
            · simp [hik]
          rw [e]
          exact wpAny_of_held_last2 hH hT fuel _ a' w' (by simpa using hs) (clo_set hs hc hri) h'.2
        · exact absurd hi hnot
theorem chain_last2 {id : Nat} {L : List Oper} (segs : List (List Bool × Nat)) (m : List Bool) (hm : P.follows .mixedOrders = true) (hne : L.isEmpty = false) (hn : Region.noSelect L.dropLast.toArray = true)
    (hH : headB L.dropLast.toArray = true) (hT : L.getLast?.toList.all (lastB2 .any L.dropLast.toArray) = true)
    (hB : (chainB .any L.dropLast.toArray segs m (Array.replicate L.dropLast.length false) && decide (stepsB segs m ≤ L.dropLast.length)) = true) (hS : S w.drew)
    (h : wpSegs P L.dropLast.toArray (upF (fun a w => wpList P L.toArray Q L.getLast?.toList a w)) S segs m a w.drew) : (Code.region id L.toArray true).wp P Q a w := by
  simp only [Bool.and_eq_true, decide_eq_true_eq] at hB
  obtain ⟨t, h1, h2⟩ := split_last (L := L) (by rintro rfl; simp at hne)
  refine wp_region_any hm ?_
  have hk := held_chain (md := .any) hn (fun c d v a w h => h.elim) segs m (Array.replicate L.dropLast.length false) a w.drew (L.dropLast.length - stepsB segs m) hB.1 hS h
  rw [show L.dropLast.length - stepsB segs m + stepsB segs m = L.dropLast.length from by omega, h1] at hk
  rw [h1] at hT
  have e : L.toArray = L.dropLast.toArray.push t := by rw [List.push_toArray, ← h2]
  rw [e] at hk ⊢
  have hk2 := wpAny_of_held_last2 (t := t) hH (by simpa using hT) L.dropLast.length (Array.replicate L.dropLast.length false) a w.drew (by simp) (fun i o _ hl => by
    simp only [Array.getD_eq_getD_getElem?, Array.getElem?_replicate] at hl
    split at hl <;> simp at hl) hk
  have e3 : (Array.replicate L.dropLast.length false).push false = Array.replicate (L.dropLast.toArray.push t).size false := by
    apply Array.ext_getElem?
    intro k
    simp only [Array.getElem?_push, Array.getElem?_replicate, Array.size_replicate, Array.size_push, List.size_toArray]
    split <;> split <;> first | rfl | (exfalso; omega) | skip
    all_goals first | rfl | (rename_i h1 h2; simp at h2; omega) | (split <;> first | rfl | omega)
  rw [e3] at hk2
  have e4 : (L.dropLast.toArray.push t).size = L.dropLast.length + 1 := by simp
  rw [e4] at hk2 ⊢
  exact hk2
end
end Go.Proofs.YtpcnoiigbmiejaaGreatDoor.chain

/- A region that draws its order, in which some operations make memory and wait for nothing (the variables of 'c, ok := f(..)'): whenever they come up, the calls are walked once, and what waits for all comes last. No program in sight. -/
namespace Go.Proofs.YtpcnoiigbmiejaaGreatDoor.chain
set_option linter.unusedVariables false
set_option linter.unusedSimpArgs false
open Go Go.RowKit Go.Proofs.YtpcnoiigbmiejaaGreatDoor.lib Go.Proofs.YtpcnoiigbmiejaaGreatDoor.flow

/-- an operation that makes memory: its number, its temporary, the type and the cells -/
structure Fl : Type where
  i : Nat
  d : Nat
  t : TypeId
  z : Array Value
/-- what it does -/
def Allocs (P : Program) (t : TypeId) (z : Array Value) : Prop := ∀ (ρ : Operand → Value) (o : Oper), o.op = .alloc t → ∀ w : World, (execOp ρ o).run P w = .ok (.value (.pointer (some ⟨w.heap.size, 0, none⟩))) (w.alloc (.cells z t))

section
variable {P : Program} {S : World → Prop} {ops : Array Oper} {md : Region.Mode} {Q : Exit → Act → World → Prop} {F : List Fl}
def isAlloc (md : Region.Mode) (f : Fl) (o : Oper) : Bool := (match o.op with | .alloc t => t == f.t | _ => false) && o.dst == some f.d && o.guard.isNone && o.after.all (fun e => !Region.binds md e)
/-- of the operations: those of F make memory and wait for nothing; no other writes their temporaries -/
def flB (md : Region.Mode) (ops : Array Oper) (F : List Fl) : Bool :=
  (F.all fun f => match ops[f.i]? with | some o => isAlloc md f o | none => false) &&
  ((List.range ops.size).all fun j => match ops[j]? with | some o => F.all (fun f => f.i == j || o.dst != some f.d) | none => true)
theorem flB_at (h : flB md ops F = true) {f : Fl} (hf : f ∈ F) : ∃ o, ops[f.i]? = some o ∧ o.op = .alloc f.t ∧ o.dst = some f.d ∧ o.guard = none ∧ ∀ e ∈ o.after, Region.binds md e = false := by
  simp only [flB, Bool.and_eq_true, List.all_eq_true] at h
  have h1 := h.1 f hf
  cases ho : ops[f.i]? with
  | none => rw [ho] at h1; cases h1
  | some o =>
    rw [ho] at h1
    simp only [isAlloc, Bool.and_eq_true, beq_iff_eq] at h1
    obtain ⟨⟨⟨h2, h3⟩, h4⟩, h5⟩ := h1
    refine ⟨o, rfl, ?_, h3, by simpa using h4, fun e he => ?_⟩
    · cases hop : o.op <;> rw [hop] at h2 <;> simp at h2
      rw [h2]
    · have := Array.all_eq_true_iff_forall_mem.1 h5 e he
      simpa using this
theorem flB_dst (h : flB md ops F = true) {j : Nat} {o : Oper} (ho : ops[j]? = some o) {f : Fl} (hf : f ∈ F) (hne : f.i ≠ j) : o.dst ≠ some f.d := by
  simp only [flB, Bool.and_eq_true, List.all_eq_true] at h
  have h1 := h.2 j (List.mem_range.2 (Array.getElem?_eq_some_iff.1 ho).1)
  rw [ho] at h1
  have h2 := List.all_eq_true.1 h1 f hf
  simpa [hne] using h2

/-- the lists of those that have come up: alike but for those of F, of which none has in l0 -/
structure Like (F : List Fl) (l0 l : Array Bool) : Prop where
  size : l.size = l0.size
  same : ∀ j, (∀ f ∈ F, f.i ≠ j) → l[j]? = l0[j]?
  none : ∀ f ∈ F, l0[f.i]? = some false
theorem getD_of {l : Array Bool} {j : Nat} {b d : Bool} (h : l[j]? = some b) : l.getD j d = b := by rw [Array.getD_eq_getD_getElem?, h]; rfl
theorem getD_congr {l m : Array Bool} {j : Nat} {d : Bool} (h : l[j]? = m[j]?) : l.getD j d = m.getD j d := by rw [Array.getD_eq_getD_getElem?, Array.getD_eq_getD_getElem?, h]
theorem Like.le {l0 l : Array Bool} (h : Like F l0 l) {j : Nat} {d : Bool} (hj : l0.getD j d = true) : l.getD j d = true := by
  by_cases hf : ∃ f ∈ F, f.i = j
  · obtain ⟨f, hf, rfl⟩ := hf
    rw [getD_of (h.none f hf)] at hj; cases hj
  · rw [getD_congr (h.same j fun f hf' e => hf ⟨f, hf', e⟩)]; exact hj
def full (F : List Fl) (l : Array Bool) : Array Bool := F.foldl (fun l f => l.setIfInBounds f.i true) l
theorem full_size : ∀ (F : List Fl) (l : Array Bool), (full F l).size = l.size
  | [], _ => rfl
  | f :: F, l => by unfold full; rw [List.foldl_cons]; have := full_size F (l.setIfInBounds f.i true); unfold full at this; rw [this]; simp
theorem full_true : ∀ (F : List Fl) (l : Array Bool) {j : Nat}, l[j]? = some true → (full F l)[j]? = some true
  | [], _, _, h => h
  | f :: F, l, j, h => by
    unfold full; rw [List.foldl_cons]
    refine full_true F (l.setIfInBounds f.i true) ?_
    rw [Array.getElem?_setIfInBounds]
    split
    · rename_i e; subst e; have := (Array.getElem?_eq_some_iff.1 h).1; simp [this]
    · exact h
theorem full_mem : ∀ (F : List Fl) (l : Array Bool) {f : Fl}, f ∈ F → f.i < l.size → (full F l)[f.i]? = some true
  | g :: F, l, f, hf, hl => by
    unfold full; rw [List.foldl_cons]
    rcases List.mem_cons.1 hf with rfl | hf
    · exact full_true F _ (by simp [hl])
    · exact full_mem F _ hf (by simpa using hl)
theorem full_other : ∀ (F : List Fl) (l : Array Bool) {j : Nat}, (∀ f ∈ F, f.i ≠ j) → (full F l)[j]? = l[j]?
  | [], _, _, _ => rfl
  | f :: F, l, j, h => by
    unfold full; rw [List.foldl_cons]
    have := full_other F (l.setIfInBounds f.i true) (fun g hg => h g (List.mem_cons_of_mem _ hg))
    unfold full at this
    rw [this, Array.getElem?_setIfInBounds, if_neg (h f List.mem_cons_self)]
theorem Like.full_ge {l0 l : Array Bool} (h : Like F l0 l) {j : Nat} {d : Bool} (hj : l.getD j d = true) : (full F l0).getD j d = true := by
  by_cases hf : ∃ f ∈ F, f.i = j
  · obtain ⟨f, hf, rfl⟩ := hf
    exact getD_of (full_mem F l0 hf (Array.getElem?_eq_some_iff.1 (h.none f hf)).1)
  · have hno := fun f hf' e => hf ⟨f, hf', e⟩
    rw [getD_congr (full_other F l0 hno), ← getD_congr (h.same j hno)]; exact hj
/-- what may come up: one of F, or what may come up when all of F has -/
theorem Like.ready {l0 l : Array Bool} (h : Like F l0 l) {j : Nat} (hj : j ∈ Region.ready md ops l) (hno : ∀ f ∈ F, f.i ≠ j) : j ∈ Region.ready md ops (full F l0) := by
  obtain ⟨h1, o, ho, h2⟩ := mem_ready.1 hj
  exact mem_ready.2 ⟨by rw [getD_congr (full_other F l0 hno), ← getD_congr (h.same j hno)]; exact h1, o, ho, fun e he hb => h.full_ge (h2 e he hb)⟩
theorem Like.ready_of {l0 l : Array Bool} (h : Like F l0 l) {j : Nat} (hj : j ∈ Region.ready md ops l0) (hno : ∀ f ∈ F, f.i ≠ j) : j ∈ Region.ready md ops l := by
  obtain ⟨h1, o, ho, h2⟩ := mem_ready.1 hj
  exact mem_ready.2 ⟨by rw [getD_congr (h.same j hno)]; exact h1, o, ho, fun e he hb => h.le (h2 e he hb)⟩
theorem Like.ready_fl (hB : flB md ops F = true) {l : Array Bool} {f : Fl} (hf : f ∈ F) (hl : l[f.i]? = some false) : f.i ∈ Region.ready md ops l := by
  obtain ⟨o, ho, _, _, _, h⟩ := flB_at hB hf
  exact mem_ready.2 ⟨getD_of hl, o, ho, fun e he hb => by rw [h e he] at hb; cases hb⟩
theorem Like.free {l0 l : Array Bool} (h : Like F l0 l) {i : Nat} (hi : Region.free md ops l0 i = true) : Region.free md ops l i = true := by
  unfold Region.free at *
  cases ho : ops[i]? with
  | none => rw [ho] at hi; cases hi
  | some o =>
    rw [ho] at hi
    simp only [List.all_eq_true, List.mem_range, Bool.or_eq_true] at hi ⊢
    intro j hj
    rcases hi j hj with (h1 | h1) | h1
    · exact .inl (.inl h1)
    · exact .inl (.inr (h.le h1))
    · exact .inr h1
theorem Like.set {l0 l : Array Bool} (h : Like F l0 l) {j : Nat} (hno : ∀ f ∈ F, f.i ≠ j) : Like F (l0.setIfInBounds j true) (l.setIfInBounds j true) := by
  refine ⟨by simpa using h.size, fun k hk => ?_, fun f hf => ?_⟩
  · rw [Array.getElem?_setIfInBounds, Array.getElem?_setIfInBounds, h.size, h.same k hk]
  · rw [Array.getElem?_setIfInBounds, if_neg (fun e => hno f hf e.symm)]; exact h.none f hf
theorem Like.fl {l0 l : Array Bool} (h : Like F l0 l) {f : Fl} (hf : f ∈ F) : Like F l0 (l.setIfInBounds f.i true) := by
  refine ⟨by simpa using h.size, fun k hk => ?_, h.none⟩
  rw [Array.getElem?_setIfInBounds, if_neg (hk f hf)]; exact h.same k hk
theorem plain_not {i : Nat} (hB : flB md ops F = true) (hp : plainAt ops i = true) : ∀ f ∈ F, f.i ≠ i := by
  rintro f hf rfl
  obtain ⟨o, ho, hop, _⟩ := flB_at hB hf
  simp [plainAt, ho, hop, plainOp] at hp
theorem segB_like (hB : flB md ops F = true) : ∀ (is : List Nat) (l0 l : Array Bool), Like F l0 l → (segB md ops is l0).1 = true →
    (segB md ops is l).1 = true ∧ Like F (segB md ops is l0).2 (segB md ops is l).2 ∧ ∀ f ∈ F, (segB md ops is l).2[f.i]? = l[f.i]?
  | [], l0, l, h, _ => ⟨rfl, h, fun _ _ => rfl⟩
  | i :: is, l0, l, h, hb => by
    simp only [segB, Bool.and_eq_true] at hb ⊢
    obtain ⟨⟨⟨h1, h2⟩, h3⟩, h4⟩ := hb
    have hno := plain_not hB h3
    obtain ⟨k1, k2, k3⟩ := segB_like hB is _ _ (h.set hno) h4
    refine ⟨⟨⟨⟨?_, h.free h2⟩, h3⟩, k1⟩, k2, fun f hf => ?_⟩
    · simp only [List.contains_iff_mem] at h1 ⊢
      exact h.ready_of h1 hno
    · rw [k3 f hf, Array.getElem?_setIfInBounds, if_neg (fun e => hno f hf e.symm)]

/-- how many of F are still to come -/
def cnt (F : List Fl) (l : Array Bool) : Nat := (F.filter fun f => !l.getD f.i true).length
theorem filter_less {α : Type} {p q : α → Bool} : ∀ {F : List α} {f : α}, f ∈ F → (∀ g, q g = true → p g = true) → p f = true → q f = false → (F.filter q).length + 1 ≤ (F.filter p).length
  | g :: F, f, hf, hpq, hp, hq => by
    have key : (F.filter q).length ≤ (F.filter p).length := by
      clear hf
      induction F with
      | nil => simp
      | cons x F ih =>
        rw [List.filter_cons, List.filter_cons]
        by_cases hx : q x = true
        · rw [if_pos hx, if_pos (hpq x hx)]; simpa using ih
        · rw [if_neg hx]; split
          · simp only [List.length_cons]; omega
          · exact ih
    rcases List.mem_cons.1 hf with rfl | hf
    · rw [List.filter_cons, List.filter_cons, hq, hp]; simpa using key
    · have ih := filter_less hf hpq hp hq
      rw [List.filter_cons, List.filter_cons]
      by_cases hx : q g = true
      · rw [if_pos hx, if_pos (hpq g hx)]; simpa using ih
      · rw [if_neg hx]; split
        · simp only [List.length_cons]; omega
        · exact ih
theorem cnt_fl {l : Array Bool} {f : Fl} (hf : f ∈ F) (hl : l[f.i]? = some false) : cnt F (l.setIfInBounds f.i true) + 1 ≤ cnt F l := by
  have hlt := (Array.getElem?_eq_some_iff.1 hl).1
  refine filter_less hf (fun g hg => ?_) (by rw [getD_of hl]; rfl) ?_
  · by_cases e : f.i = g.i
    · rw [← e, getD_of (b := true) (by simp [hlt])] at hg; cases hg
    · rw [getD_set_ne true e] at hg; exact hg
  · rw [getD_of (b := true) (by simp [hlt])]; rfl
theorem cnt_congr {l m : Array Bool} (h : ∀ f ∈ F, m[f.i]? = l[f.i]?) : cnt F m = cnt F l := by
  unfold cnt
  congr 1
  exact List.filter_congr fun f hf => by rw [getD_congr (h f hf)]

/-- alike but for the temporaries of F -/
structure Sim (F : List Fl) (a a' : Act) : Prop where
  defers : a'.defers = a.defers
  size : a'.tmps.size = a.tmps.size
  same : ∀ t, (∀ f ∈ F, f.d ≠ t) → a'.tmps[t]? = a.tmps[t]?
theorem Sim.refl (a : Act) : Sim F a a := ⟨rfl, rfl, fun _ _ => rfl⟩
theorem Sim.put {a a' : Act} (h : Sim F a a') {f : Fl} (hf : f ∈ F) (v : Value) : Sim F a (a'.put (some f.d) v) := by
  refine ⟨h.defers, by simpa [Act.put] using h.size, fun t ht => ?_⟩
  simp only [Act.put, Array.getElem?_setIfInBounds]
  rw [if_neg (ht f hf)]; exact h.same t ht
/-- one that has come up: its temporary points to new memory that nobody has written -/
def Zero (base : World) (f : Fl) (A : Nat) (a : Act) (w : World) : Prop := a.tmps[f.d]? = some (.pointer (some ⟨A, 0, none⟩)) ∧ base.heap.size ≤ A ∧ w.heap[A]? = some (.cells f.z f.t (0, 0))
/-- all of those that l lists have come up -/
def Ups (F : List Fl) (base : World) (l : Array Bool) (a : Act) (w : World) : Prop :=
  ∃ A : Nat → Nat, (∀ f ∈ F, l[f.i]? = some true → Zero base f (A f.i) a w) ∧ ∀ f ∈ F, ∀ g ∈ F, l[f.i]? = some true → l[g.i]? = some true → f.i ≠ g.i → A f.i ≠ A g.i
def Zeros (F : List Fl) (base : World) (a : Act) (w : World) : Prop :=
  ∃ A : Nat → Nat, (∀ f ∈ F, Zero base f (A f.i) a w) ∧ ∀ f ∈ F, ∀ g ∈ F, f.i ≠ g.i → A f.i ≠ A g.i
/-- the same of the temporaries of F -/
def Agree (F : List Fl) (a a' : Act) : Prop := ∀ f ∈ F, a'.tmps[f.d]? = a.tmps[f.d]?
theorem Agree.put {a : Act} {d : Option Tmp} {v : Value} (h : ∀ f ∈ F, d ≠ some f.d) : Agree F a (a.put d v) := by
  intro f hf
  cases d with
  | none => rfl
  | some d => simp only [Act.put, Array.getElem?_setIfInBounds]; rw [if_neg (fun e => h f hf (by rw [e]))]
theorem Ups.keep {base : World} {l m : Array Bool} {a a' : Act} {w w' : World} (h : Ups F base l a w) (hl : ∀ f ∈ F, m[f.i]? = l[f.i]?) (ha : Agree F a a') (hb : Below w.heap.size w w') : Ups F base m a' w' := by
  obtain ⟨A, h1, h2⟩ := h
  refine ⟨A, fun f hf hm => ?_, fun f hf g hg hm hm' hne => h2 f hf g hg (by rw [← hl f hf]; exact hm) (by rw [← hl g hg]; exact hm') hne⟩
  obtain ⟨k1, k2, k3⟩ := h1 f hf (by rw [← hl f hf]; exact hm)
  exact ⟨by rw [ha f hf]; exact k1, k2, by rw [hb.block _ (Array.getElem?_eq_some_iff.1 k3).1]; exact k3⟩
def pairB : List Fl → Bool
  | [] => true
  | f :: F => F.all (fun g => f.i != g.i && f.d != g.d) && pairB F
theorem pair_of : ∀ {F : List Fl}, pairB F = true → ∀ f ∈ F, ∀ g ∈ F, g ≠ f → g.i ≠ f.i ∧ g.d ≠ f.d
  | x :: F, h, f, hf, g, hg, hne => by
    simp only [pairB, Bool.and_eq_true, List.all_eq_true, bne_iff_ne, ne_eq] at h
    rcases List.mem_cons.1 hf with e1 | h1
    · subst e1
      rcases List.mem_cons.1 hg with e2 | h2
      · exact absurd e2 hne
      · exact ⟨fun e => (h.1 g h2).1 e.symm, fun e => (h.1 g h2).2 e.symm⟩
    · rcases List.mem_cons.1 hg with e2 | h2
      · subst e2; exact h.1 f h1
      · exact pair_of h.2 f h1 g h2 hne
def Sz (F : List Fl) (a : Act) : Prop := ∀ f ∈ F, f.d < a.tmps.size
theorem lt_of_some {a a' : Act} {d : Nat} (h : a'.tmps[d]? = a.tmps[d]?) (hd : d < a.tmps.size) : d < a'.tmps.size := by
  rw [Array.getElem?_eq_getElem hd] at h
  exact (Array.getElem?_eq_some_iff.1 h).1
theorem Sz.agree {a a' : Act} (h : Sz F a) (ha : Agree F a a') : Sz F a' := fun f hf => lt_of_some (ha f hf) (h f hf)
theorem Ups.new {base : World} {l : Array Bool} {a : Act} {w : World} (h : Ups F base l a w) (hF : pairB F = true) {f : Fl} (hf : f ∈ F) (hbase : base.heap.size ≤ w.heap.size) (hd : f.d < a.tmps.size) :
    Ups F base (l.setIfInBounds f.i true) (a.put (some f.d) (.pointer (some ⟨w.heap.size, 0, none⟩))) (w.alloc (.cells f.z f.t)) := by
  obtain ⟨A, h1, h2⟩ := h
  have hot := pair_of hF f hf
  have hmem : ∀ g ∈ F, g ≠ f → (l.setIfInBounds f.i true)[g.i]? = some true → l[g.i]? = some true := fun g hg hne hl => by
    rw [Array.getElem?_setIfInBounds, if_neg (fun e => (hot g hg hne).1 e.symm)] at hl; exact hl
  have hlt : ∀ g ∈ F, l[g.i]? = some true → A g.i < w.heap.size := fun g hg hl => (Array.getElem?_eq_some_iff.1 (h1 g hg hl).2.2).1
  refine ⟨fun k => if k = f.i then w.heap.size else A k, fun g hg hl => ?_, fun g hg g' hg' hl hl' hne => ?_⟩
  · dsimp only
    by_cases e : g = f
    · subst e
      rw [if_pos rfl]
      exact ⟨by simp [Act.put, hd], hbase, heap_alloc_new w _⟩
    · rw [if_neg (hot g hg e).1]
      obtain ⟨k1, k2, k3⟩ := h1 g hg (hmem g hg e hl)
      refine ⟨?_, k2, by rw [heap_alloc_old w _ (hlt g hg (hmem g hg e hl))]; exact k3⟩
      simp only [Act.put, Array.getElem?_setIfInBounds]
      rw [if_neg (fun e' => (hot g hg e).2 e'.symm)]; exact k1
  · dsimp only
    by_cases e : g = f
    · subst e
      have e' : g' ≠ g := fun e' => hne (by rw [e'])
      rw [if_pos rfl, if_neg (hot g' hg' e').1]
      have := hlt g' hg' (hmem g' hg' e' hl'); omega
    · rw [if_neg (hot g hg e).1]
      by_cases e' : g' = f
      · subst e'
        rw [if_pos rfl]
        have := hlt g hg (hmem g hg e hl); omega
      · rw [if_neg (hot g' hg' e').1]
        exact h2 g hg g' hg' (hmem g hg e hl) (hmem g' hg' e' hl') hne

/-- what must come last, one behind another -/
def wpLate (P : Program) (ops : Array Oper) (Q : Exit → Act → World → Prop) (base : World) : List Nat → Act → World → Prop
  | [], a, w => Q .normal a w
  | r :: rs, a, w => ∀ K : Act → World → Prop, (∀ a2 w2, Below base.heap.size base w2 → wpLate P ops Q base rs a2 w2 → K a2 w2) → wpList P ops (upF K) (ops[r]?).toList a w
/-- the walk: lights, a heavy one, lights, .., then those that wait for all -/
def wpSegsF (P : Program) (ops : Array Oper) (Q : Exit → Act → World → Prop) (S : World → Prop) (F : List Fl) (base : World) : List (List Bool × Nat) → List Bool → List Nat → Act → World → Prop
  | [], m, rs, a, w => wpQuiet P ops (Cls S) (fun a' => ∀ a2 W, Sim F a' a2 → Below w.heap.size w W → Zeros F base a2 W → wpLate P ops Q base rs a2 W) (pickB m ops.toList) a
  | (m, h) :: segs, m', rs, a, w => wpQuiet P ops (Cls S) (fun a' => ∀ a2 W, Sim F a' a2 → Below w.heap.size w W → ∀ K : Act → World → Prop, (∀ a3 w3, Below W.heap.size W w3 → wpSegsF P ops Q S F base segs m' rs a3 w3 → K a3 w3) → wpList P ops (upF K) (ops[h]?).toList a2 W) (pickB m ops.toList) a
def lateB (md : Region.Mode) (ops : Array Oper) : List Nat → Array Bool → Bool
  | [], l => (Region.ready md ops l).isEmpty
  | r :: rs, l => (Region.ready md ops l == [r]) && lateB md ops rs (l.setIfInBounds r true)
def waits (md : Region.Mode) (ops : Array Oper) (F : List Fl) (r : Nat) : Bool := match ops[r]? with | some o => F.all (fun f => f.i != r && o.after.any fun e => Region.binds md e && e.on == f.i) | none => false
def chainFB (md : Region.Mode) (ops : Array Oper) (F : List Fl) : List (List Bool × Nat) → List Bool → List Nat → Array Bool → Bool
  | [], m, rs, l => decide (m.length ≤ ops.size) && (segB md ops (idxB m 0) l).1 && rs.head?.any (waits md ops F) && lateB md ops rs (full F (segB md ops (idxB m 0) l).2)
  | (m, h) :: segs, m', rs, l => decide (m.length ≤ ops.size) && (segB md ops (idxB m 0) l).1 && (Region.ready md ops (full F (segB md ops (idxB m 0) l).2) == [h]) && (Region.ready md ops (segB md ops (idxB m 0) l).2).contains h && F.all (fun f => f.i != h) &&
      chainFB md ops F segs m' rs ((segB md ops (idxB m 0) l).2.setIfInBounds h true)
def stepsF : List (List Bool × Nat) → List Bool → List Nat → Nat
  | [], m, rs => rs.length + (idxB m 0).length
  | (m, _) :: segs, m', rs => stepsF segs m' rs + 1 + (idxB m 0).length

theorem segB_plain : ∀ (is : List Nat) (l : Array Bool), (segB md ops is l).1 = true → ∀ i ∈ is, plainAt ops i = true
  | i :: is, l, h, j, hj => by
    simp only [segB, Bool.and_eq_true] at h
    rcases List.mem_cons.1 hj with rfl | hj
    · exact h.1.2
    · exact segB_plain is _ h.2 j hj
theorem quiet_agree {C : World → Prop} {K : Act → Prop} : ∀ (os : List Oper) (a : Act), (∀ o ∈ os, ∀ f ∈ F, o.dst ≠ some f.d) → wpQuiet P ops C K os a → wpQuiet P ops C (fun a' => Agree F a a' ∧ K a') os a
  | [], a, _, h => ⟨fun _ _ => rfl, h⟩
  | o :: os, a, hd, h => by
    have hput : ∀ v, Agree F a (a.put o.dst v) := fun v => Agree.put (hd o List.mem_cons_self)
    have next : ∀ v, wpQuiet P ops C K os (a.put o.dst v) → wpQuiet P ops C (fun a' => Agree F a a' ∧ K a') os (a.put o.dst v) := fun v hv =>
      quiet_mono (fun a' ha => ⟨fun f hf => (ha.1 f hf).trans (hput v f hf), ha.2⟩) _ _ (quiet_agree os _ (fun o ho => hd o (List.mem_cons_of_mem _ ho)) hv)
    unfold wpQuiet at h ⊢
    split
    · rename_i hw
      rw [if_pos hw] at h
      obtain ⟨v, h1, h2⟩ := h
      exact ⟨v, h1, next v h2⟩
    · rename_i hw
      rw [if_neg hw] at h
      exact next undef h
theorem wpOp_agree {i : Nat} {o : Oper} {K : Act → World → Prop} {a : Act} {w : World} (ho : ops[i]? = some o) (hd : ∀ f ∈ F, o.dst ≠ some f.d) (h : wpOp P ops Q i K a w) : wpOp P ops Q i (fun a' w' => Agree F a a' ∧ K a' w') a w := by
  have hput : ∀ v, Agree F a (a.put o.dst v) := fun v => Agree.put hd
  unfold wpOp at *
  simp only [ho] at *
  split
  · rename_i hw
    simp only [hw, if_true] at h
    refine h.imp (fun hx => ?_) id
    clear h
    unfold Oper.wp at *
    generalize (execOp a.eval o).run P w = r at *
    cases r with
    | ok n w' =>
      cases n <;> simp only [Oper.upon] at hx ⊢
      case value u => exact ⟨hput u, hx⟩
      case skip => exact ⟨hput _, hx⟩
      case defer d =>
        refine ⟨?_, hx⟩
        have := hput undef
        intro f hf
        have h2 := this f hf
        cases hd : o.dst with
        | none => rw [hd] at h2; exact h2
        | some t => rw [hd] at h2; exact h2
      case enter f args =>
        refine Calls.mono hx fun e w'' he => ?_
        cases e with
        | returned u => exact ⟨hput u, he⟩
        | panicked c => exact he
        | outgrown => exact he
      case row row args => exact Rows.mono hx fun u w'' he => ⟨hput u, he⟩
    | halt x w' => cases x <;> simp only [Oper.upon] at hx ⊢ <;> exact hx
  · rename_i hw
    simp only [hw] at h
    exact ⟨hput _, h⟩
theorem mem_pick {m : List Bool} (hm : m.length ≤ ops.size) {o : Oper} (ho : o ∈ pickB m ops.toList) : ∃ i ∈ idxB m 0, ops[i]? = some o := by
  have h := idx_pick (ops := ops) m 0 (by omega)
  rw [List.drop_zero] at h
  have : some o ∈ (idxB m 0).map (fun i => ops[i]?) := by rw [h]; exact List.mem_map.2 ⟨o, ho, rfl⟩
  obtain ⟨i, hi, e⟩ := List.mem_map.1 this
  exact ⟨i, hi, e⟩

theorem held_late {base : World} (hSb : ∀ w2, Below base.heap.size base w2 → S w2) : ∀ (rs : List Nat) (l : Array Bool) (a : Act) (w : World) (N : Nat), lateB md ops rs l = true → rs.length ≤ N → wpLate P ops Q base rs a w → wpAnyH P md ops Q S N l a w
  | [], l, a, w, N, hb, _, h => wpAnyH_done (by simpa [lateB] using hb) h N
  | r :: rs, l, a, w, N, hb, hN, h => by
    simp only [lateB, Bool.and_eq_true, beq_iff_eq] at hb
    obtain ⟨N, rfl⟩ : ∃ M, N = M + 1 := ⟨N - 1, by simp at hN; omega⟩
    have hmem : r ∈ Region.ready md ops l := by rw [hb.1]; exact List.mem_singleton_self _
    obtain ⟨_, o, ho, _⟩ := mem_ready.1 hmem
    refine wpAnyH_all hb.1 (by simp) fun i hi => ?_
    rw [List.mem_singleton.1 hi]
    exact wpOp_of_list ho (h _ (fun a2 w2 hb2 hw2 => ⟨hSb w2 hb2, held_late hSb rs _ a2 w2 N hb.2 (by simp at hN; omega) hw2⟩))

/-- the state between: all that F may change -/
structure Mid (F : List Fl) (base : World) (l0 : Array Bool) (a0 : Act) (w0 : World) (l : Array Bool) (a : Act) (w : World) : Prop where
  like : Like F l0 l
  sim : Sim F a0 a
  below : Below w0.heap.size w0 w
  ups : Ups F base l a w
  sz : Sz F a
theorem getD_false {l : Array Bool} {j : Nat} (h : l.getD j true = false) : l[j]? = some false := by
  rw [Array.getD_eq_getD_getElem?] at h
  cases hl : l[j]? with
  | none => rw [hl] at h; cases h
  | some b => rw [hl] at h; simp at h; rw [h]

theorem fl_branch {base : World} (hB : flB md ops F = true) (hF : pairB F = true) (hA : ∀ f ∈ F, Allocs P f.t f.z) (hcl : ∀ w w', S w → Below w.heap.size w w' → S w') {l0 : Array Bool} {a0 : Act} {w0 : World} (hbw : Below base.heap.size base w0) (hS : S w0) {c : Nat} (hc : 1 ≤ c)
    (hne : ∀ l, Like F l0 l → Region.ready md ops l ≠ [])
    (hstep : ∀ N l a w, Mid F base l0 a0 w0 l a w → cnt F l + c ≤ N + 1 → ∀ j ∈ Region.ready md ops l, (∀ f ∈ F, f.i ≠ j) → wpOp P ops Q j (fun a' w' => S w' ∧ wpAnyH P md ops Q S N (l.setIfInBounds j true) a' w') a w) :
    ∀ (N : Nat) (l : Array Bool) (a : Act) (w : World), Mid F base l0 a0 w0 l a w → cnt F l + c ≤ N → wpAnyH P md ops Q S N l a w
  | 0, l, a, w, _, hN => by omega
  | N + 1, l, a, w, hM, hN => by
    refine ⟨fun h => absurd h (hne l hM.like), fun j hj => ?_⟩
    by_cases hf : ∃ f ∈ F, f.i = j
    · obtain ⟨f, hf, rfl⟩ := hf
      obtain ⟨o, ho, hop, hod, hog, _⟩ := flB_at hB hf
      have hl := getD_false (mem_ready.1 hj).1
      have hw : Region.wanted o (yielded ops a.tmps) = true := by simp [Region.wanted, hog]
      unfold wpOp
      simp only [ho, hw, if_true]
      refine .inl ?_
      unfold Oper.wp
      rw [hA f hf a.eval o hop w]
      simp only [Oper.upon, hod]
      have hb1 : Below w.heap.size w (w.alloc (.cells f.z f.t)) := (Below.refl _ _).alloc (Nat.le_refl _) _
      have hbase : base.heap.size ≤ w.heap.size := Nat.le_trans hbw.size hM.below.size
      have hb2 : Below w0.heap.size w0 (w.alloc (.cells f.z f.t)) := hM.below.trans (hb1.mono hM.below.size)
      refine ⟨hcl w0 _ hS hb2, fl_branch hB hF hA hcl hbw hS hc hne hstep N _ _ _ ⟨hM.like.fl hf, hM.sim.put hf _, hb2, hM.ups.new hF hf hbase (hM.sz f hf), fun g hg => ?_⟩ ?_⟩
      · simp [Act.put]; exact hM.sz g hg
      · have := cnt_fl hf hl; omega
    · exact hstep N l a w hM hN j hj (fun f hf' e => hf ⟨f, hf', e⟩)

theorem held_float {base : World} (hB : flB md ops F = true) (hF : pairB F = true) (hA : ∀ f ∈ F, Allocs P f.t f.z) (hcl : ∀ w w', S w → Below w.heap.size w w' → S w') (hSb : S base) (hs : Region.noSelect ops = true) (hQ : ∀ c d v a w, Q (.panic c) (Act.put a d v) w → Q (.panic c) a w) :
    ∀ (segs : List (List Bool × Nat)) (m : List Bool) (rs : List Nat) (l0 l : Array Bool) (a : Act) (w : World) (N : Nat), chainFB md ops F segs m rs l0 = true → Like F l0 l → Below base.heap.size base w → Ups F base l a w → Sz F a → stepsF segs m rs + cnt F l ≤ N →
      wpSegsF P ops Q S F base segs m rs a w → wpAnyH P md ops Q S N l a w
  | [], m, rs, l0, l, a, w, N, hb, hL, hbw, hu, hz, hN, h => by
    simp only [chainFB, Bool.and_eq_true, decide_eq_true_eq] at hb
    obtain ⟨⟨⟨hm, h1⟩, h2⟩, h3⟩ := hb
    simp only [stepsF] at hN
    have hSw := hcl base w hSb hbw
    obtain ⟨k1, k2, k3⟩ := segB_like hB (idxB m 0) l0 l hL h1
    obtain ⟨N, rfl⟩ : ∃ M, N = M + (idxB m 0).length := ⟨N - (idxB m 0).length, by omega⟩
    refine held_seg hs hQ (idxB m 0) (pickB m ops.toList) l a w N (by simpa using idx_pick m 0 (by omega)) k1 hSw ?_
    unfold wpSegsF at h
    refine quiet_mono (fun a' ha => ?_) _ _ (quiet_agree (F := F) _ _ (fun o ho => ?_) h)
    · obtain ⟨hag, hk⟩ := ha
      have hlate := hk
      cases rs with
      | nil => simp at h2
      | cons r rs =>
        simp only [List.head?_cons, Option.any_some] at h2
        have hlb := h3
        simp only [lateB, Bool.and_eq_true, beq_iff_eq] at h3
        have hwait : ∀ l', Like F (segB md ops (idxB m 0) l0).2 l' → r ∈ Region.ready md ops l' → l' = full F (segB md ops (idxB m 0) l0).2 ∧ ∀ f ∈ F, l'[f.i]? = some true := by
          intro l' hL' hr
          obtain ⟨_, o, ho, hall⟩ := mem_ready.1 hr
          unfold waits at h2
          rw [ho] at h2
          have hup : ∀ f ∈ F, l'[f.i]? = some true := fun f hf => by
            have h4 := List.all_eq_true.1 h2 f hf
            simp only [Bool.and_eq_true] at h4
            obtain ⟨e, he, hbe⟩ := Array.any_eq_true'.1 h4.2
            simp only [Bool.and_eq_true, beq_iff_eq] at hbe
            have h5 := hall e he hbe.1
            rw [hbe.2, Array.getD_eq_getD_getElem?] at h5
            cases hl : l'[f.i]? with
            | none => rw [hl] at h5; cases h5
            | some b => rw [hl] at h5; simp at h5; rw [h5]
          refine ⟨?_, hup⟩
          apply Array.ext_getElem?
          intro k
          by_cases hf : ∃ f ∈ F, f.i = k
          · obtain ⟨f, hf, rfl⟩ := hf
            rw [hup f hf, full_mem F _ hf (Array.getElem?_eq_some_iff.1 (hL'.none f hf)).1]
          · have hno := fun f hf' e => hf ⟨f, hf', e⟩
            rw [hL'.same k hno, full_other F _ hno]
        refine fl_branch (l0 := (segB md ops (idxB m 0) l0).2) (a0 := a') (w0 := w) (c := rs.length + 1) hB hF hA hcl hbw hSw (by omega) (fun l' hL' => ?_) (fun N' l' a2 W hM hN' j hj hno => ?_) N _ a' w ⟨k2, Sim.refl _, Below.refl _ _, hu.keep (fun f hf => k3 f hf) hag (Below.refl _ _), hz.agree hag⟩ ?_
        · by_cases hall : ∀ f ∈ F, l'[f.i]? = some true
          · have e : l' = full F (segB md ops (idxB m 0) l0).2 := by
              apply Array.ext_getElem?
              intro k
              by_cases hf : ∃ f ∈ F, f.i = k
              · obtain ⟨f, hf, rfl⟩ := hf
                rw [hall f hf, full_mem F _ hf (Array.getElem?_eq_some_iff.1 (hL'.none f hf)).1]
              · have hno := fun f hf' e => hf ⟨f, hf', e⟩
                rw [hL'.same k hno, full_other F _ hno]
            rw [e, h3.1]; simp
          · have : ∃ f ∈ F, l'[f.i]? ≠ some true := by
              refine Classical.byContradiction fun hc => hall fun f hf => ?_
              exact Classical.byContradiction fun hn => hc ⟨f, hf, hn⟩
            obtain ⟨f, hf, hn⟩ := this
            have hsz : f.i < l'.size := by rw [hL'.size]; exact (Array.getElem?_eq_some_iff.1 (hL'.none f hf)).1
            have hfalse : l'[f.i]? = some false := by
              rw [Array.getElem?_eq_getElem hsz] at hn ⊢
              cases hb : l'[f.i] with
              | true => rw [hb] at hn; exact absurd rfl hn
              | false => rfl
            have := Like.ready_fl (md := md) hB hf hfalse
            intro e; rw [e] at this; cases this
        · have hj2 := hM.like.ready hj hno
          rw [h3.1] at hj2
          rw [List.mem_singleton.1 hj2] at hj ⊢
          obtain ⟨el, hup⟩ := hwait l' hM.like hj
          obtain ⟨_, o, ho, _⟩ := mem_ready.1 hj
          obtain ⟨A, u1, u2⟩ := hM.ups
          have hZ : Zeros F base a2 W := ⟨A, fun f hf => u1 f hf (hup f hf), fun f hf g hg hne => u2 f hf g hg (hup f hf) (hup g hg) hne⟩
          have hwl := hk a2 W hM.sim hM.below hZ
          unfold wpLate at hwl
          refine wpOp_of_list ho (hwl _ (fun a3 w3 hb3 hw3 => ⟨hcl base w3 hSb hb3, ?_⟩))
          refine held_late (fun w2 hb2 => hcl base w2 hSb hb2) rs _ a3 w3 N' ?_ (by omega) hw3
          rw [el]; exact h3.2
        · rw [cnt_congr k3]; simp at hN; omega
    · obtain ⟨i, hi, ho'⟩ := mem_pick hm ho
      exact fun f hf => flB_dst hB ho' hf (plain_not hB (segB_plain _ _ h1 i hi) f hf)
  | (m, hv) :: segs, m', rs, l0, l, a, w, N, hb, hL, hbw, hu, hz, hN, h => by
    simp only [chainFB, Bool.and_eq_true, decide_eq_true_eq, beq_iff_eq] at hb
    obtain ⟨⟨⟨⟨⟨hm, h1⟩, h2⟩, h3⟩, h4⟩, h5⟩ := hb
    simp only [stepsF] at hN
    have hSw := hcl base w hSb hbw
    have hnoF : ∀ f ∈ F, f.i ≠ hv := fun f hf => by simpa using List.all_eq_true.1 h4 f hf
    have hmem : hv ∈ Region.ready md ops (segB md ops (idxB m 0) l0).2 := by simpa using h3
    obtain ⟨k1, k2, k3⟩ := segB_like hB (idxB m 0) l0 l hL h1
    obtain ⟨N, rfl⟩ : ∃ M, N = M + (idxB m 0).length := ⟨N - (idxB m 0).length, by omega⟩
    refine held_seg hs hQ (idxB m 0) (pickB m ops.toList) l a w N (by simpa using idx_pick m 0 (by omega)) k1 hSw ?_
    unfold wpSegsF at h
    refine quiet_mono (fun a' ha => ?_) _ _ (quiet_agree (F := F) _ _ (fun o ho => ?_) h)
    · obtain ⟨hag, hk⟩ := ha
      refine fl_branch (l0 := (segB md ops (idxB m 0) l0).2) (a0 := a') (w0 := w) (c := stepsF segs m' rs + 1) hB hF hA hcl hbw hSw (by omega) (fun l' hL' => ?_) (fun N' l' a2 W hM hN' j hj hno => ?_) N _ a' w ⟨k2, Sim.refl _, Below.refl _ _, hu.keep (fun f hf => k3 f hf) hag (Below.refl _ _), hz.agree hag⟩ ?_
      · have := hL'.ready_of hmem hnoF
        intro e; rw [e] at this; cases this
      · have hj2 := hM.like.ready hj hno
        rw [h2] at hj2
        rw [List.mem_singleton.1 hj2] at hj ⊢
        obtain ⟨_, o, ho, _⟩ := mem_ready.1 hj
        have hod : ∀ f ∈ F, o.dst ≠ some f.d := fun f hf => flB_dst hB ho hf (hnoF f hf)
        have key := hk a2 W hM.sim hM.below (fun a3 w3 => Agree F a2 a3 → S w3 ∧ wpAnyH P md ops Q S N' (l'.setIfInBounds hv true) a3 w3) (fun a3 w3 hb3 hw3 hag3 => by
          have hbw3 : Below base.heap.size base w3 := (hbw.trans (hM.below.mono hbw.size)).trans (hb3.mono (Nat.le_trans hbw.size hM.below.size))
          refine ⟨hcl base w3 hSb hbw3, ?_⟩
          have hl3 : ∀ f ∈ F, (l'.setIfInBounds hv true)[f.i]? = l'[f.i]? := fun f hf => by rw [Array.getElem?_setIfInBounds, if_neg (fun e => hnoF f hf e.symm)]
          refine held_float hB hF hA hcl hSb hs hQ segs m' rs _ _ a3 w3 N' h5 (hM.like.set hnoF) hbw3 (hM.ups.keep hl3 hag3 hb3) (hM.sz.agree hag3) ?_ hw3
          rw [cnt_congr hl3]; omega)
        exact wpOp_mono (fun a3 w3 hh => hh.2 hh.1) (wpOp_agree (F := F) ho hod (wpOp_of_list ho key))
      · rw [cnt_congr k3]; omega
    · obtain ⟨i, hi, ho'⟩ := mem_pick hm ho
      exact fun f hf => flB_dst hB ho' hf (plain_not hB (segB_plain _ _ h1 i hi) f hf)

theorem late_mono {base : World} : ∀ (rs : List Nat) (a : Act) (w : World), wpLate P ops Q base rs a w → wpLate P ops (NoPanic Q) base rs a w
  | [], a, w, h => h
  | r :: rs, a, w, h => by
    unfold wpLate at h ⊢
    exact fun K hK => h K (fun a2 w2 hb hw => hK a2 w2 hb (late_mono rs a2 w2 hw))
theorem segsF_mono {base : World} : ∀ (segs : List (List Bool × Nat)) (m : List Bool) (rs : List Nat) (a : Act) (w : World), wpSegsF P ops Q S F base segs m rs a w → wpSegsF P ops (NoPanic Q) S F base segs m rs a w
  | [], m, rs, a, w, h => by
    unfold wpSegsF at h ⊢
    exact quiet_mono (fun a' hk a2 W h1 h2 h3 => late_mono rs a2 W (hk a2 W h1 h2 h3)) _ _ h
  | (m, hv) :: segs, m', rs, a, w, h => by
    unfold wpSegsF at h ⊢
    exact quiet_mono (fun a' hk a2 W h1 h2 K hK => hk a2 W h1 h2 K (fun a3 w3 hb hw => hK a3 w3 hb (segsF_mono segs m' rs a3 w3 hw))) _ _ h

theorem chain_float {id : Nat} {L : List Oper} {a : Act} {w : World} (F : List Fl) (segs : List (List Bool × Nat)) (m : List Bool) (rs : List Nat) (hm : P.follows .mixedOrders = true) (hn : Region.noSelect L.toArray = true)
    (hB : (flB .any L.toArray F && pairB F && chainFB .any L.toArray F segs m rs (Array.replicate L.length false) && decide (stepsF segs m rs + F.length ≤ L.length) && F.all (fun f => decide (f.i < L.length))) = true)
    (hA : ∀ f ∈ F, Allocs P f.t f.z) (hcl : ∀ w w', S w → Below w.heap.size w w' → S w') (hS : S w.drew) (hz : Sz F a)
    (h : wpSegsF P L.toArray Q S F w.drew segs m rs a w.drew) : (Code.region id L.toArray true).wp P Q a w := by
  simp only [Bool.and_eq_true, decide_eq_true_eq] at hB
  obtain ⟨⟨⟨⟨h1, h2⟩, h3⟩, h4⟩, h5⟩ := hB
  refine wp_region_noPanic ?_
  refine wp_region_held (S := S) hm ?_
  have hnone : ∀ f ∈ F, (Array.replicate L.length false)[f.i]? = some false := fun f hf => by
    have := of_decide_eq_true (List.all_eq_true.1 h5 f hf)
    simp [this]
  have hk := held_float (Q := NoPanic Q) (md := .any) (base := w.drew) h1 h2 hA hcl hS hn (fun c d v a w h => h) segs m rs (Array.replicate L.length false) (Array.replicate L.length false) a w.drew L.length h3 ⟨rfl, fun _ _ => rfl, hnone⟩ (Below.refl _ _)
    ⟨fun _ => 0, fun f hf hl => (by rw [hnone f hf] at hl; cases hl), fun f hf _ _ hl => (by rw [hnone f hf] at hl; cases hl)⟩ hz ?_ (segsF_mono segs m rs a w.drew h)
  · simpa using hk
  · have : cnt F (Array.replicate L.length false) ≤ F.length := List.length_filter_le _ _
    omega

/-! one of them, and two -/
theorem Sim.one {f : Fl} {a a' : Act} (h : Sim [f] a a') (hz : f.d < a.tmps.size) : ∃ u, a' = a.put (some f.d) u := by
  refine ⟨a'.tmps.getD f.d undef, ?_⟩
  cases a with
  | mk t d => cases a' with
    | mk t' d' =>
      have h1 := h.defers
      have h2 := h.size
      have h3 := h.same
      simp only at h1 h2 h3
      simp only [Act.put, Act.mk.injEq]
      refine ⟨?_, h1⟩
      apply Array.ext_getElem?
      intro k
      rw [Array.getElem?_setIfInBounds]
      split
      · rename_i e; subst e
        rw [Array.getD_eq_getD_getElem?, Array.getElem?_eq_getElem (by rw [h2]; exact hz)]; rfl
      · rename_i e; exact h3 k (fun g hg => by simp at hg; subst hg; exact e)
theorem zeros_one {f : Fl} {base : World} {a a' : Act} {w : World} (h : Sim [f] a a') (hz : f.d < a.tmps.size) (hZ : Zeros [f] base a' w) :
    ∃ A, a' = a.put (some f.d) (.pointer (some ⟨A, 0, none⟩)) ∧ base.heap.size ≤ A ∧ w.heap[A]? = some (.cells f.z f.t (0, 0)) := by
  obtain ⟨u, rfl⟩ := h.one hz
  obtain ⟨A, h1, _⟩ := hZ
  obtain ⟨k1, k2, k3⟩ := h1 f (List.mem_singleton_self _)
  simp [Act.put, hz] at k1
  exact ⟨A f.i, by rw [k1], k2, k3⟩
theorem Sim.two {f g : Fl} {a a' : Act} (h : Sim [f, g] a a') (hz : f.d < a.tmps.size) (hz' : g.d < a.tmps.size) (hne : f.d ≠ g.d) : ∃ u v, a' = (a.put (some f.d) u).put (some g.d) v := by
  refine ⟨a'.tmps.getD f.d undef, a'.tmps.getD g.d undef, ?_⟩
  cases a with
  | mk t d => cases a' with
    | mk t' d' =>
      have h1 := h.defers
      have h2 := h.size
      have h3 := h.same
      simp only at h1 h2 h3 hz hz'
      simp only [Act.put, Act.mk.injEq]
      refine ⟨?_, h1⟩
      apply Array.ext_getElem?
      intro k
      rw [Array.getElem?_setIfInBounds, Array.getElem?_setIfInBounds]
      simp only [Array.size_setIfInBounds]
      split
      · rename_i e; subst e
        rw [Array.getD_eq_getD_getElem?, Array.getElem?_eq_getElem (by rw [h2]; exact hz')]; rfl
      · rename_i e
        split
        · rename_i e'; subst e'
          rw [Array.getD_eq_getD_getElem?, Array.getElem?_eq_getElem (by rw [h2]; exact hz)]; rfl
        · rename_i e'
          refine h3 k (fun x hx => ?_)
          simp at hx
          rcases hx with rfl | rfl
          · exact e'
          · exact e
theorem zeros_two {f g : Fl} {base : World} {a a' : Act} {w : World} (h : Sim [f, g] a a') (hz : f.d < a.tmps.size) (hz' : g.d < a.tmps.size) (hne : f.d ≠ g.d) (hi : f.i ≠ g.i) (hZ : Zeros [f, g] base a' w) :
    ∃ A B, a' = (a.put (some f.d) (.pointer (some ⟨A, 0, none⟩))).put (some g.d) (.pointer (some ⟨B, 0, none⟩)) ∧ A ≠ B ∧ base.heap.size ≤ A ∧ base.heap.size ≤ B ∧ w.heap[A]? = some (.cells f.z f.t (0, 0)) ∧ w.heap[B]? = some (.cells g.z g.t (0, 0)) := by
  obtain ⟨u, v, rfl⟩ := h.two hz hz' hne
  obtain ⟨A, h1, h2⟩ := hZ
  obtain ⟨k1, k2, k3⟩ := h1 f (by simp)
  obtain ⟨l1, l2, l3⟩ := h1 g (by simp)
  have h4 := h2 f (by simp) g (by simp) hi
  simp only [Act.put, Array.getElem?_setIfInBounds, Array.size_setIfInBounds, if_neg (Ne.symm hne), if_pos hz, if_pos hz', if_true, Option.some.injEq] at k1 l1
  exact ⟨A f.i, A g.i, by rw [k1, l1], h4, k2, l2, k3, l3⟩
end
end Go.Proofs.YtpcnoiigbmiejaaGreatDoor.chain
