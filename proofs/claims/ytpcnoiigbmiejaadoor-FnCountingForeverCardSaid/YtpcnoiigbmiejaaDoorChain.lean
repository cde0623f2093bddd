/- A region that draws its order, whose calls come one behind another: loads and arithmetic are taken as early as they may come up, in every world of a class; the calls in their order, from the very world at hand. No program in sight. -/
import Derived.WalkKit
import Derived.Deep.Quiet
import Derived.BigQuiet
import Derived.Deep.RegionHeld3
import Derived.Test.YtpcnoiigbmiejaaDoorLib
import Derived.Test.YtpcnoiigbmiejaaDoorFlow
namespace Go.Proofs.YtpcnoiigbmiejaaDoor.chain
set_option linter.unusedVariables false
set_option linter.unusedSimpArgs false
open Go Go.RowKit Go.Proofs.YtpcnoiigbmiejaaDoor.lib Go.Proofs.YtpcnoiigbmiejaaDoor.flow

def plainOp : Op → Bool
  | .move _ | .assign _ | .pick _ _ _ | .load _ _ | .nilCheck _ | .binOp _ _ _ _ _ | .unOp _ _ _ | .convert _ _ _ | .slice _ _ _ _ _ | .fieldAddr _ _ _ | .field _ _ _ | .indexAddr _ _ _ | .index _ _ _ | .extract _ _ | .build _ _ | .makeFunc _ _ _ => true
  | .call c => match c.callee with
    | .builtin .len | .builtin .min | .builtin .max | .builtin .cap => true
    | _ => false
  | _ => false

section
variable {P : Program} {S : World → Prop} {o : Oper} {a : Act} {w w' : World} {n : Next}

theorem andThen_inv {α β : Type} {r : Result α} {f : α → World → Result β} {b : β} (h : r.andThen f = .ok b w') : ∃ x w1, f x w1 = .ok b w' := by
  cases r with
  | ok x w1 => exact ⟨x, w1, h⟩
  | halt x w1 => cases h
theorem wrapped {s : Sem Value} (h : (do pure (Next.value (← s)) : Sem Next).run P w = .ok n w') : ∃ u, n = .value u := by
  simp only [Sem.run_bind, Sem.run_pure] at h
  generalize s.run P w = r at h
  cases r with
  | ok u w1 => simp only [Result.andThen_ok, Result.ok.injEq] at h; exact ⟨u, h.1.symm⟩
  | halt x w1 => cases h
theorem plain_value {ρ : Operand → Value} (hp : plainOp o.op = true) (h : (execOp ρ o).run P w = .ok n w') : ∃ u, n = .value u := by
  unfold execOp at h
  cases hop : o.op <;> rw [hop] at hp <;> simp only [plainOp, Bool.false_eq_true] at hp <;> simp only [hop] at h
  case move x => simp only [Sem.run_pure, Result.ok.injEq] at h; exact ⟨_, h.1.symm⟩
  case assign x => simp only [Sem.run_pure, Result.ok.injEq] at h; exact ⟨_, h.1.symm⟩
  case pick c x y =>
    simp only [Sem.run_bind, Sem.run_pure] at h
    generalize (asBool (ρ c)).run P w = r at h
    cases r with
    | ok u w1 => simp only [Result.andThen_ok, Sem.run_pure, Result.ok.injEq] at h; exact ⟨_, h.1.symm⟩
    | halt x w1 => cases h
  case nilCheck x =>
    have hpan : ∀ w1 w2 : World, (runtimePanic .nilDeref : Sem Next).run P w1 = .ok n w2 → False := by
      intro w1 w2 h; simp [runtimePanic, go_sem] at h
    split at h
    · exact (hpan _ _ h).elim
    · exact (hpan _ _ h).elim
    · exact (hpan _ _ h).elim
    · split at h
      · exact (hpan _ _ h).elim
      · simp only [Sem.run_bind] at h
        obtain ⟨_, w1, h⟩ := andThen_inv h
        obtain ⟨_, w2, h⟩ := andThen_inv h
        split at h
        · simp only [Sem.run_bind] at h
          obtain ⟨_, w3, h⟩ := andThen_inv h
          simp only [Sem.run_pure, Result.ok.injEq] at h; exact ⟨_, h.1.symm⟩
        · simp only [Sem.run_pure, Result.ok.injEq] at h; exact ⟨_, h.1.symm⟩
      · simp only [Sem.run_pure, Result.ok.injEq] at h; exact ⟨_, h.1.symm⟩
    · simp only [Sem.run_pure, Result.ok.injEq] at h; exact ⟨_, h.1.symm⟩
  case call c =>
    obtain ⟨callee, args, argTypes⟩ := c
    cases callee with
    | builtin b =>
      cases b
      all_goals first | exact Bool.noConfusion hp | skip
      all_goals
        simp only [resolve, Sem.run_bind, Sem.run_pure, Result.andThen_ok, invoke, builtin] at h
        obtain ⟨u, w1, h⟩ := andThen_inv h
        simp only [Result.ok.injEq] at h
        exact ⟨u, h.1.symm⟩
    | invoke r m => exact Bool.noConfusion hp
    | value f => exact Bool.noConfusion hp
  all_goals exact wrapped h

/-- the worlds that meet S -/
abbrev Cls (S : World → Prop) : World → Prop := fun W => ∃ X : Wd S, W = X.w
theorem yields_of_quiet {v : Value} (hp : plainOp o.op = true) (hq : ∀ w, Cls S w → o.quietAt P a (Cls S) w v) : ∀ w, S w → (execOp a.eval o).run P w = .ok (.value v) w := by
  intro w hw
  have h := hq w ⟨⟨w, hw⟩, rfl⟩
  unfold Oper.quietAt at h
  generalize hr : (execOp a.eval o).run P w = r at h
  cases r with
  | halt x w1 => exact h.elim
  | ok n w1 =>
    obtain ⟨u, rfl⟩ := plain_value hp hr
    obtain ⟨rfl, rfl⟩ : w1 = w ∧ u = v := h
    rfl

/-- those that a mask picks -/
def pickB : List Bool → List Oper → List Oper
  | true :: bs, o :: os => o :: pickB bs os
  | false :: bs, _ :: os => pickB bs os
  | _, _ => []
def idxB : List Bool → Nat → List Nat
  | true :: bs, k => k :: idxB bs (k + 1)
  | false :: bs, k => idxB bs (k + 1)
  | [], _ => []
def plainAt (ops : Array Oper) (i : Nat) : Bool := match ops[i]? with | some o => plainOp o.op | none => false
def segB (md : Region.Mode) (ops : Array Oper) : List Nat → Array Bool → Bool × Array Bool
  | [], l => (true, l)
  | i :: is, l =>
    let r := segB md ops is (l.setIfInBounds i true)
    ((Region.ready md ops l).contains i && Region.free md ops l i && plainAt ops i && r.1, r.2)
def chainB (md : Region.Mode) (ops : Array Oper) : List (List Bool × Nat) → List Bool → Array Bool → Bool
  | [], m, l => decide (m.length ≤ ops.size) && (segB md ops (idxB m 0) l).1 && (Region.ready md ops (segB md ops (idxB m 0) l).2).isEmpty
  | (m, h) :: segs, m', l => decide (m.length ≤ ops.size) && (segB md ops (idxB m 0) l).1 && (Region.ready md ops (segB md ops (idxB m 0) l).2 == [h]) && chainB md ops segs m' ((segB md ops (idxB m 0) l).2.setIfInBounds h true)
def stepsB : List (List Bool × Nat) → List Bool → Nat
  | [], m => (idxB m 0).length
  | (m, _) :: segs, m' => stepsB segs m' + 1 + (idxB m 0).length

def upF (K : Act → World → Prop) : Exit → Act → World → Prop
  | .normal, a, w => K a w
  | _, _, _ => False

/-- the walk: lights, a heavy one, lights, .. -/
def wpSegs (P : Program) (ops : Array Oper) (Q : Exit → Act → World → Prop) (S : World → Prop) : List (List Bool × Nat) → List Bool → Act → World → Prop
  | [], m, a, w => wpQuiet P ops (Cls S) (fun a' => Q .normal a' w) (pickB m ops.toList) a
  | (m, h) :: segs, m', a, w => wpQuiet P ops (Cls S) (fun a' => ∀ K : Act → World → Prop, (∀ a2 w2, S w2 → wpSegs P ops Q S segs m' a2 w2 → K a2 w2) → wpList P ops (upF K) (ops[h]?).toList a' w) (pickB m ops.toList) a

variable {ops : Array Oper} {md : Region.Mode} {Q : Exit → Act → World → Prop}
theorem idx_pick : ∀ (m : List Bool) (k : Nat), k + m.length ≤ ops.size → (idxB m k).map (fun i => ops[i]?) = (pickB m (ops.toList.drop k)).map some
  | [], k, _ => by cases ops.toList.drop k <;> rfl
  | b :: m, k, h => by
    simp only [List.length_cons] at h
    have hk : k < ops.toList.length := by simp; omega
    rw [List.drop_eq_getElem_cons hk]
    have ih := idx_pick m (k + 1) (by omega)
    cases b with
    | true =>
      simp only [idxB, pickB, List.map_cons, ih, List.cons.injEq, and_true]
      simp at hk ⊢
    | false => simp only [idxB, pickB, ih]

theorem held_seg (hs : Region.noSelect ops = true) (hQ : ∀ c d v a w, Q (.panic c) (Act.put a d v) w → Q (.panic c) a w) : ∀ (is : List Nat) (os : List Oper) (listed : Array Bool) (a : Act) (w : World) (fuel : Nat), is.map (fun i => ops[i]?) = os.map some →
    (segB md ops is listed).1 = true → S w → wpQuiet P ops (Cls S) (fun a' => wpAnyH P md ops Q S fuel (segB md ops is listed).2 a' w) os a → wpAnyH P md ops Q S (fuel + is.length) listed a w
  | [], os, listed, a, w, fuel, hm, hB, hS, h => by
    cases os with
    | nil => exact h
    | cons o os => simp at hm
  | i :: is, os, listed, a, w, fuel, hm, hB, hS, h => by
    cases os with
    | nil => simp at hm
    | cons o os =>
      simp only [List.map_cons, List.cons.injEq] at hm
      simp only [segB, Bool.and_eq_true] at hB h
      obtain ⟨⟨⟨hr, hf⟩, hp⟩, hB'⟩ := hB
      have hpo : plainOp o.op = true := by simpa [plainAt, hm.1] using hp
      have key : ∃ v, YieldsIf P ops S o v a ∧ wpQuiet P ops (Cls S) (fun a' => wpAnyH P md ops Q S fuel (segB md ops is (listed.setIfInBounds i true)).2 a' w) os (a.put o.dst v) := by
        unfold wpQuiet at h
        by_cases hw : Region.wanted o (yielded ops a.tmps) = true
        · rw [if_pos hw] at h
          obtain ⟨v, h1, h2⟩ := h
          exact ⟨v, .inl ⟨hw, yields_of_quiet hpo h1⟩, h2⟩
        · rw [if_neg hw] at h
          exact ⟨undef, .inr ⟨by simpa using hw, rfl⟩, h⟩
      obtain ⟨v, hy, hk⟩ := key
      have ih := held_seg hs hQ is os (listed.setIfInBounds i true) (a.put o.dst v) w fuel hm.2 hB' hS hk
      exact wpAnyH_take hm.1 hs hf hr (fun c a w => hQ c o.dst v a w) hy hS ih

theorem quiet_mono {C : World → Prop} {K K' : Act → Prop} (h : ∀ a, K a → K' a) : ∀ (l : List Oper) (a : Act), wpQuiet P ops C K l a → wpQuiet P ops C K' l a
  | [], a, hq => h a hq
  | o :: l, a, hq => by
    unfold wpQuiet at hq ⊢
    split
    · rename_i hw; rw [if_pos hw] at hq; exact Oper.quiet_mono (quiet_mono h l) hq
    · rename_i hw; rw [if_neg hw] at hq; exact quiet_mono h l _ hq
theorem segs_mono : ∀ (segs : List (List Bool × Nat)) (m : List Bool) (a : Act) (w : World), wpSegs P ops Q S segs m a w → wpSegs P ops (NoPanic Q) S segs m a w
  | [], m, a, w, h => quiet_mono (fun a' hq => hq) _ _ h
  | (m, hv) :: segs, m', a, w, h => by
    unfold wpSegs at h ⊢
    exact quiet_mono (fun a' hk K hK => hk K (fun a2 w2 hS hw => hK a2 w2 hS (segs_mono segs m' a2 w2 hw))) _ _ h

theorem wpOp_of_list {K : Act → World → Prop} {h : Nat} {o : Oper} (ho : ops[h]? = some o) (hw : wpList P ops (upF K) (ops[h]?).toList a w) : wpOp P ops Q h K a w := by
  rw [ho] at hw
  have hout : ∀ p : Prop, LetsOut (upF K) → p := fun p ⟨_, _, h⟩ => h.elim
  unfold wpOp
  simp only [ho]
  simp only [Option.toList_some, wpList] at hw
  split
  · rename_i hwant
    rw [if_pos hwant] at hw
    rcases hw with hw | hw
    · refine .inl ?_
      unfold Oper.wp at hw ⊢
      generalize (execOp a.eval o).run P w = r at hw ⊢
      cases r with
      | halt x w1 => cases x <;> exact hw.elim
      | ok n w1 =>
        cases n <;> simp only [Oper.upon] at hw ⊢
        case value u => exact hw
        case skip => exact hw
        case defer d => exact hw
        case row row args => exact hw
        case enter f args =>
          refine Calls.mono hw fun e w2 he => ?_
          cases e with
          | returned v => exact he
          | panicked c => exact he.elim
          | outgrown => exact hout _ he
    · exact hout _ hw.2
  · rename_i hwant
    rw [if_neg hwant] at hw
    exact hw

theorem held_chain (hs : Region.noSelect ops = true) (hQ : ∀ c d v a w, Q (.panic c) (Act.put a d v) w → Q (.panic c) a w) : ∀ (segs : List (List Bool × Nat)) (m : List Bool) (listed : Array Bool) (a : Act) (w : World) (fuel : Nat),
    chainB md ops segs m listed = true → S w → wpSegs P ops Q S segs m a w → wpAnyH P md ops Q S (fuel + stepsB segs m) listed a w
  | [], m, listed, a, w, fuel, hB, hS, h => by
    simp only [chainB, Bool.and_eq_true, decide_eq_true_eq] at hB
    obtain ⟨⟨hm, h1⟩, h2⟩ := hB
    have hr : Region.ready md ops (segB md ops (idxB m 0) listed).2 = [] := by simpa using h2
    refine held_seg hs hQ (idxB m 0) (pickB m ops.toList) listed a w fuel (by simpa using idx_pick m 0 (by omega)) h1 hS ?_
    unfold wpSegs at h
    have e : ∀ a', Q .normal a' w → wpAnyH P md ops Q S fuel (segB md ops (idxB m 0) listed).2 a' w := fun a' hq => by
      cases fuel with
      | zero => exact ⟨hr, hq⟩
      | succ f => exact ⟨fun _ => hq, fun i hi => by rw [hr] at hi; cases hi⟩
    rw [show (fun a' => wpAnyH P md ops Q S fuel (segB md ops (idxB m 0) listed).2 a' w) = (fun a' => wpAnyH P md ops Q S fuel (segB md ops (idxB m 0) listed).2 a' w) from rfl]
    exact quiet_mono e _ _ h
  | (m, hv) :: segs, m', listed, a, w, fuel, hB, hS, h => by
    simp only [chainB, Bool.and_eq_true, decide_eq_true_eq] at hB
    obtain ⟨⟨⟨hm, h1⟩, h2⟩, h3⟩ := hB
    have hr : Region.ready md ops (segB md ops (idxB m 0) listed).2 = [hv] := by simpa using h2
    have hlt : ∃ o, ops[hv]? = some o := by
      have : hv ∈ Region.ready md ops (segB md ops (idxB m 0) listed).2 := by rw [hr]; exact List.mem_singleton_self _
      obtain ⟨_, o, ho, _⟩ := mem_ready.1 this
      exact ⟨o, ho⟩
    obtain ⟨o, ho⟩ := hlt
    have e2 : fuel + stepsB ((m, hv) :: segs) m' = (fuel + stepsB segs m' + 1) + (idxB m 0).length := by simp only [stepsB]; omega
    rw [e2]
    refine held_seg hs hQ (idxB m 0) (pickB m ops.toList) listed a w _ (by simpa using idx_pick m 0 (by omega)) h1 hS ?_
    unfold wpSegs at h
    refine quiet_mono (fun a' hk => ?_) _ _ h
    refine wpAnyH_all hr (by simp) fun i hi => ?_
    rw [List.mem_singleton.1 hi]
    exact wpOp_of_list ho (hk _ (fun a2 w2 hS2 hw2 => ⟨hS2, held_chain hs hQ segs m' _ a2 w2 fuel h3 hS2 hw2⟩))

theorem chain {id : Nat} {L : List Oper} (segs : List (List Bool × Nat)) (m : List Bool) (hm : P.follows .mixedOrders = true) (hn : Region.noSelect L.toArray = true)
    (hB : (chainB .any L.toArray segs m (Array.replicate L.length false) && decide (stepsB segs m ≤ L.length)) = true) (hS : S w.drew) (h : wpSegs P L.toArray Q S segs m a w.drew) : (Code.region id L.toArray true).wp P Q a w := by
  simp only [Bool.and_eq_true, decide_eq_true_eq] at hB
  refine wp_region_noPanic ?_
  refine wp_region_held (S := S) hm ?_
  have hk := held_chain (Q := NoPanic Q) (md := .any) hn (fun c d v a w h => h) segs m (Array.replicate L.length false) a w.drew (L.length - stepsB segs m) hB.1 hS (segs_mono segs m a w.drew h)
  rw [show L.length - stepsB segs m + stepsB segs m = L.length from by omega] at hk
  simpa using hk

/-! a last operation that waits for all others and may break the class -/
theorem wpOp_up {K K' : Act → World → Prop} {K0 : Act → World → Prop} {h : Nat} (hk : ∀ a w, K0 a w → K' a w) (hw : wpOp P ops (upF K) h K0 a w) : wpOp P ops Q h K' a w := by
  have hout : ∀ p : Prop, LetsOut (upF K) → p := fun p ⟨_, _, h⟩ => h.elim
  unfold wpOp at hw ⊢
  split
  · rename_i ho; rw [ho] at hw; exact hk _ _ hw
  · rename_i o ho
    rw [ho] at hw
    simp only at hw
    split
    · rename_i hwant
      rw [if_pos hwant] at hw
      rcases hw with hw | hw
      · refine .inl ?_
        unfold Oper.wp at hw ⊢
        generalize (execOp a.eval o).run P w = r at hw ⊢
        cases r with
        | halt x w1 => cases x <;> exact hw.elim
        | ok n w1 =>
          cases n <;> simp only [Oper.upon] at hw ⊢
          case value u => exact hk _ _ hw
          case skip => exact hk _ _ hw
          case defer d => exact hk _ _ hw
          case row row args => exact Rows.mono hw fun u w2 he => hk _ _ he
          case enter f args =>
            refine Calls.mono hw fun e w2 he => ?_
            cases e with
            | returned v => exact hk _ _ he
            | panicked c => exact he.elim
            | outgrown => exact hout _ he
      · exact hout _ hw.2
    · rename_i hwant
      rw [if_neg hwant] at hw
      exact hk _ _ hw
variable {H : Array Oper} {t : Oper}
theorem wpOp_push {K : Act → World → Prop} {Q' : Exit → Act → World → Prop} {i : Nat} (hH : headB H = true) (hi : i < H.size) (h : wpOp P H Q' i K a w) : wpOp P (H.push t) Q' i K a w := by
  unfold wpOp at *
  have e : (H.push t)[i]? = H[i]? := by rw [Array.getElem?_push, if_neg (by omega)]
  have e2 : H[i]? = some H[i] := by simp
  rw [e]
  rw [e2] at h ⊢
  simp only [yielded_wanted (t := t) (headB_spec hH e2).2]
  exact h
theorem wpAny_of_held_last (hH : headB H = true) (hT : lastB md H t = true) : ∀ (fuel : Nat) (l : Array Bool) (a : Act) (w : World), l.size = H.size →
    wpAnyH P md H (upF (fun a w => wpList P (H.push t) Q [t] a w)) S fuel l a w → wpAny P md (H.push t) Q (fuel + 1) (l.push false) a w
  | 0, l, a, w, hs, h => last_done hT hs (all_of_none hs hH h.1) h.2
  | fuel + 1, l, a, w, hs, h => by
    by_cases hr : Region.ready md H l = []
    · exact last_done hT hs (all_of_none hs hH hr) (h.1 hr)
    · have hnot : H.size ∉ Region.ready md (H.push t) (l.push false) := fun hc => hr (none_of_all ((ready_last hs hT).1 hc))
      refine ⟨fun h0 => ?_, fun i hi => ?_⟩
      · obtain ⟨j, hj⟩ := List.exists_mem_of_ne_nil _ hr
        have hlt : j < H.size := (Array.getElem?_eq_some_iff.1 (mem_ready.1 hj).2.choose_spec.1).1
        have := (ready_head (t := t) hs hlt).2 hj
        rw [h0] at this
        cases this
      · rcases ready_le hi with hlt | rfl
        · have h2 := h.2 i ((ready_head hs hlt).1 hi)
          refine wpOp_up (fun a' w' h' => ?_) (wpOp_push (t := t) hH hlt h2)
          have e : (l.push false).setIfInBounds i true = (l.setIfInBounds i true).push false := by
            apply Array.ext_getElem?
            intro k
            simp only [Array.getElem?_push, Array.getElem?_setIfInBounds, Array.size_setIfInBounds, Array.size_push]
            by_cases hik : i = k
            · subst hik; simp [show i < l.size by omega, show i ≠ l.size by omega, show i < l.size + 1 by omega]
            · simp [hik]
          rw [e]
          exact wpAny_of_held_last hH hT fuel _ a' w' (by simpa using hs) h'.2
        · exact absurd hi hnot

theorem chain_last {id : Nat} {L : List Oper} (segs : List (List Bool × Nat)) (m : List Bool) (hm : P.follows .mixedOrders = true) (hne : L.isEmpty = false) (hn : Region.noSelect L.dropLast.toArray = true)
    (hH : headB L.dropLast.toArray = true) (hT : L.getLast?.toList.all (lastB .any L.dropLast.toArray) = true)
    (hB : (chainB .any L.dropLast.toArray segs m (Array.replicate L.dropLast.length false) && decide (stepsB segs m ≤ L.dropLast.length)) = true) (hS : S w.drew)
    (h : wpSegs P L.dropLast.toArray (upF (fun a w => wpList P L.toArray Q L.getLast?.toList a w)) S segs m a w.drew) : (Code.region id L.toArray true).wp P Q a w := by
  simp only [Bool.and_eq_true, decide_eq_true_eq] at hB
  obtain ⟨t, h1, h2⟩ := split_last (L := L) (by rintro rfl; simp at hne)
  refine wp_region_any hm ?_
  have hk := held_chain (md := .any) hn (fun c d v a w h => h.elim) segs m (Array.replicate L.dropLast.length false) a w.drew (L.dropLast.length - stepsB segs m) hB.1 hS h
  rw [show L.dropLast.length - stepsB segs m + stepsB segs m = L.dropLast.length from by omega, h1] at hk
  rw [h1] at hT
  have e : L.toArray = L.dropLast.toArray.push t := by rw [List.push_toArray, ← h2]
  rw [e] at hk ⊢
  have hk2 := wpAny_of_held_last (t := t) hH (by simpa using hT) L.dropLast.length (Array.replicate L.dropLast.length false) a w.drew (by simp) hk
  have e3 : (Array.replicate L.dropLast.length false).push false = Array.replicate (L.dropLast.toArray.push t).size false := by
    apply Array.ext_getElem?
    intro k
    simp only [Array.getElem?_push, Array.getElem?_replicate, Array.size_replicate, Array.size_push, List.size_toArray]
    split <;> split <;> first | rfl | (exfalso; omega) | skip
    all_goals first | rfl | (rename_i h1 h2; simp at h2; omega) | (split <;> first | rfl | omega)
  rw [e3] at hk2
  have e4 : (L.dropLast.toArray.push t).size = L.dropLast.length + 1 := by simp
  rw [e4] at hk2 ⊢
  exact hk2
end
end Go.Proofs.YtpcnoiigbmiejaaDoor.chain
