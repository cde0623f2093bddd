/- A region that draws its order, in which at some points two or three operations that make memory may come up: all ways are walked. No program in sight. -/
import Derived.Test.YtpcnoiigbmiejaaDoorChain
namespace Go.Proofs.YtpcnoiigbmiejaaDoor.tri
set_option linter.unusedVariables false
set_option linter.unusedSimpArgs false
open Go Go.RowKit Go.Proofs.YtpcnoiigbmiejaaDoor.lib Go.Proofs.YtpcnoiigbmiejaaDoor.flow Go.Proofs.YtpcnoiigbmiejaaDoor.chain

/-- lights and what comes up behind them: nothing, one operation, one of two -/
inductive Tr : Type where
  | leaf (m : List Bool) : Tr
  | one (m : List Bool) (h : Nat) (t : Tr) : Tr
  | two (m : List Bool) (h1 : Nat) (t1 : Tr) (h2 : Nat) (t2 : Tr) : Tr
  | three (m : List Bool) (h1 : Nat) (t1 : Tr) (h2 : Nat) (t2 : Tr) (h3 : Nat) (t3 : Tr) : Tr

section
variable {P : Program} {S : World → Prop} {a : Act} {w : World} {ops : Array Oper} {md : Region.Mode} {Q : Exit → Act → World → Prop}
def treeB (md : Region.Mode) (ops : Array Oper) : Tr → Array Bool → Bool
  | .leaf m, l => decide (m.length ≤ ops.size) && (segB md ops (idxB m 0) l).1 && (Region.ready md ops (segB md ops (idxB m 0) l).2).isEmpty
  | .one m h t, l => decide (m.length ≤ ops.size) && (segB md ops (idxB m 0) l).1 && (Region.ready md ops (segB md ops (idxB m 0) l).2 == [h]) && treeB md ops t ((segB md ops (idxB m 0) l).2.setIfInBounds h true)
  | .two m h1 t1 h2 t2, l => decide (m.length ≤ ops.size) && (segB md ops (idxB m 0) l).1 && (Region.ready md ops (segB md ops (idxB m 0) l).2 == [h1, h2]) && treeB md ops t1 ((segB md ops (idxB m 0) l).2.setIfInBounds h1 true) && treeB md ops t2 ((segB md ops (idxB m 0) l).2.setIfInBounds h2 true)
  | .three m h1 t1 h2 t2 h3 t3, l => decide (m.length ≤ ops.size) && (segB md ops (idxB m 0) l).1 && (Region.ready md ops (segB md ops (idxB m 0) l).2 == [h1, h2, h3]) && treeB md ops t1 ((segB md ops (idxB m 0) l).2.setIfInBounds h1 true) && treeB md ops t2 ((segB md ops (idxB m 0) l).2.setIfInBounds h2 true) && treeB md ops t3 ((segB md ops (idxB m 0) l).2.setIfInBounds h3 true)
def deepB : Tr → Nat
  | .leaf m => (idxB m 0).length
  | .one m _ t => deepB t + 1 + (idxB m 0).length
  | .two m _ t1 _ t2 => max (deepB t1) (deepB t2) + 1 + (idxB m 0).length
  | .three m _ t1 _ t2 _ t3 => max (max (deepB t1) (deepB t2)) (deepB t3) + 1 + (idxB m 0).length
def wpTr (P : Program) (ops : Array Oper) (Q : Exit → Act → World → Prop) (S : World → Prop) : Tr → Act → World → Prop
  | .leaf m, a, w => wpQuiet P ops (Cls S) (fun a' => Q .normal a' w) (pickB m ops.toList) a
  | .one m h t, a, w => wpQuiet P ops (Cls S) (fun a' => ∀ K : Act → World → Prop, (∀ a2 w2, S w2 → wpTr P ops Q S t a2 w2 → K a2 w2) → wpList P ops (upF K) (ops[h]?).toList a' w) (pickB m ops.toList) a
  | .two m h1 t1 h2 t2, a, w => wpQuiet P ops (Cls S) (fun a' => (∀ K : Act → World → Prop, (∀ a2 w2, S w2 → wpTr P ops Q S t1 a2 w2 → K a2 w2) → wpList P ops (upF K) (ops[h1]?).toList a' w) ∧
      (∀ K : Act → World → Prop, (∀ a2 w2, S w2 → wpTr P ops Q S t2 a2 w2 → K a2 w2) → wpList P ops (upF K) (ops[h2]?).toList a' w)) (pickB m ops.toList) a
  | .three m h1 t1 h2 t2 h3 t3, a, w => wpQuiet P ops (Cls S) (fun a' => (∀ K : Act → World → Prop, (∀ a2 w2, S w2 → wpTr P ops Q S t1 a2 w2 → K a2 w2) → wpList P ops (upF K) (ops[h1]?).toList a' w) ∧
      (∀ K : Act → World → Prop, (∀ a2 w2, S w2 → wpTr P ops Q S t2 a2 w2 → K a2 w2) → wpList P ops (upF K) (ops[h2]?).toList a' w) ∧
      (∀ K : Act → World → Prop, (∀ a2 w2, S w2 → wpTr P ops Q S t3 a2 w2 → K a2 w2) → wpList P ops (upF K) (ops[h3]?).toList a' w)) (pickB m ops.toList) a
theorem tr_mono : ∀ (t : Tr) (a : Act) (w : World), wpTr P ops Q S t a w → wpTr P ops (NoPanic Q) S t a w
  | .leaf m, a, w, h => quiet_mono (fun a' hq => hq) _ _ h
  | .one m hv t, a, w, h => by
    unfold wpTr at h ⊢
    exact quiet_mono (fun a' hk K hK => hk K (fun a2 w2 hS hw => hK a2 w2 hS (tr_mono t a2 w2 hw))) _ _ h
  | .two m h1 t1 h2 t2, a, w, h => by
    unfold wpTr at h ⊢
    exact quiet_mono (fun a' hk => ⟨fun K hK => hk.1 K (fun a2 w2 hS hw => hK a2 w2 hS (tr_mono t1 a2 w2 hw)), fun K hK => hk.2 K (fun a2 w2 hS hw => hK a2 w2 hS (tr_mono t2 a2 w2 hw))⟩) _ _ h
  | .three m h1 t1 h2 t2 h3 t3, a, w, h => by
    unfold wpTr at h ⊢
    exact quiet_mono (fun a' hk => ⟨fun K hK => hk.1 K (fun a2 w2 hS hw => hK a2 w2 hS (tr_mono t1 a2 w2 hw)), fun K hK => hk.2.1 K (fun a2 w2 hS hw => hK a2 w2 hS (tr_mono t2 a2 w2 hw)), fun K hK => hk.2.2 K (fun a2 w2 hS hw => hK a2 w2 hS (tr_mono t3 a2 w2 hw))⟩) _ _ h

theorem held_tree (hs : Region.noSelect ops = true) (hQ : ∀ c d v a w, Q (.panic c) (Act.put a d v) w → Q (.panic c) a w) : ∀ (t : Tr) (listed : Array Bool) (a : Act) (w : World) (fuel : Nat),
    treeB md ops t listed = true → deepB t ≤ fuel → S w → wpTr P ops Q S t a w → wpAnyH P md ops Q S fuel listed a w
  | .leaf m, listed, a, w, fuel, hB, hf, hS, h => by
    simp only [treeB, Bool.and_eq_true, decide_eq_true_eq] at hB
    obtain ⟨⟨hm, h1⟩, h2⟩ := hB
    have hr : Region.ready md ops (segB md ops (idxB m 0) listed).2 = [] := by simpa using h2
    simp only [deepB] at hf
    obtain ⟨f2, rfl⟩ : ∃ f2, fuel = f2 + (idxB m 0).length := ⟨fuel - (idxB m 0).length, by omega⟩
    refine held_seg hs hQ (idxB m 0) (pickB m ops.toList) listed a w _ (by simpa using idx_pick m 0 (by omega)) h1 hS ?_
    unfold wpTr at h
    have e : ∀ a', Q .normal a' w → wpAnyH P md ops Q S f2 (segB md ops (idxB m 0) listed).2 a' w := fun a' hq => by
      cases f2 with
      | zero => exact ⟨hr, hq⟩
      | succ f => exact ⟨fun _ => hq, fun i hi => by rw [hr] at hi; cases hi⟩
    exact quiet_mono e _ _ h
  | .one m hv t, listed, a, w, fuel, hB, hf, hS, h => by
    simp only [treeB, Bool.and_eq_true, decide_eq_true_eq] at hB
    obtain ⟨⟨⟨hm, h1⟩, h2⟩, h3⟩ := hB
    have hr : Region.ready md ops (segB md ops (idxB m 0) listed).2 = [hv] := by simpa using h2
    have hlt : ∃ o, ops[hv]? = some o := by
      have : hv ∈ Region.ready md ops (segB md ops (idxB m 0) listed).2 := by rw [hr]; exact List.mem_singleton_self _
      obtain ⟨_, o, ho, _⟩ := mem_ready.1 this
      exact ⟨o, ho⟩
    obtain ⟨o, ho⟩ := hlt
    simp only [deepB] at hf
    obtain ⟨f2, rfl⟩ : ∃ f2, fuel = (f2 + 1) + (idxB m 0).length := ⟨fuel - (idxB m 0).length - 1, by omega⟩
    refine held_seg hs hQ (idxB m 0) (pickB m ops.toList) listed a w _ (by simpa using idx_pick m 0 (by omega)) h1 hS ?_
    unfold wpTr at h
    refine quiet_mono (fun a' hk => ?_) _ _ h
    refine wpAnyH_all hr (by simp) fun i hi => ?_
    rw [List.mem_singleton.1 hi]
    exact wpOp_of_list ho (hk _ (fun a2 w2 hS2 hw2 => ⟨hS2, held_tree hs hQ t _ a2 w2 f2 h3 (by omega) hS2 hw2⟩))
  | .two m g1 t1 g2 t2, listed, a, w, fuel, hB, hf, hS, h => by
    simp only [treeB, Bool.and_eq_true, decide_eq_true_eq] at hB
    obtain ⟨⟨⟨⟨hm, h1⟩, h2⟩, h3⟩, h4⟩ := hB
    have hr : Region.ready md ops (segB md ops (idxB m 0) listed).2 = [g1, g2] := by simpa using h2
    have hlt : ∀ g, g ∈ [g1, g2] → ∃ o, ops[g]? = some o := by
      intro g hg
      rw [← hr] at hg
      obtain ⟨_, o, ho, _⟩ := mem_ready.1 hg
      exact ⟨o, ho⟩
    obtain ⟨o1, ho1⟩ := hlt g1 (by simp)
    obtain ⟨o2, ho2⟩ := hlt g2 (by simp)
    simp only [deepB] at hf
    obtain ⟨f2, rfl⟩ : ∃ f2, fuel = (f2 + 1) + (idxB m 0).length := ⟨fuel - (idxB m 0).length - 1, by omega⟩
    refine held_seg hs hQ (idxB m 0) (pickB m ops.toList) listed a w _ (by simpa using idx_pick m 0 (by omega)) h1 hS ?_
    unfold wpTr at h
    refine quiet_mono (fun a' hk => ?_) _ _ h
    refine wpAnyH_all hr (by simp) fun i hi => ?_
    rcases List.mem_cons.1 hi with rfl | hi
    · exact wpOp_of_list ho1 (hk.1 _ (fun a2 w2 hS2 hw2 => ⟨hS2, held_tree hs hQ t1 _ a2 w2 f2 h3 (by omega) hS2 hw2⟩))
    · rw [List.mem_singleton.1 hi]
      exact wpOp_of_list ho2 (hk.2 _ (fun a2 w2 hS2 hw2 => ⟨hS2, held_tree hs hQ t2 _ a2 w2 f2 h4 (by omega) hS2 hw2⟩))
  | .three m g1 t1 g2 t2 g3 t3, listed, a, w, fuel, hB, hf, hS, h => by
    simp only [treeB, Bool.and_eq_true, decide_eq_true_eq] at hB
    obtain ⟨⟨⟨⟨⟨hm, h1⟩, h2⟩, h3⟩, h4⟩, h5⟩ := hB
    have hr : Region.ready md ops (segB md ops (idxB m 0) listed).2 = [g1, g2, g3] := by simpa using h2
    have hlt : ∀ g, g ∈ [g1, g2, g3] → ∃ o, ops[g]? = some o := by
      intro g hg
      rw [← hr] at hg
      obtain ⟨_, o, ho, _⟩ := mem_ready.1 hg
      exact ⟨o, ho⟩
    obtain ⟨o1, ho1⟩ := hlt g1 (by simp)
    obtain ⟨o2, ho2⟩ := hlt g2 (by simp)
    obtain ⟨o3, ho3⟩ := hlt g3 (by simp)
    simp only [deepB] at hf
    obtain ⟨f2, rfl⟩ : ∃ f2, fuel = (f2 + 1) + (idxB m 0).length := ⟨fuel - (idxB m 0).length - 1, by omega⟩
    refine held_seg hs hQ (idxB m 0) (pickB m ops.toList) listed a w _ (by simpa using idx_pick m 0 (by omega)) h1 hS ?_
    unfold wpTr at h
    refine quiet_mono (fun a' hk => ?_) _ _ h
    refine wpAnyH_all hr (by simp) fun i hi => ?_
    rcases List.mem_cons.1 hi with rfl | hi
    · exact wpOp_of_list ho1 (hk.1 _ (fun a2 w2 hS2 hw2 => ⟨hS2, held_tree hs hQ t1 _ a2 w2 f2 h3 (by omega) hS2 hw2⟩))
    rcases List.mem_cons.1 hi with rfl | hi
    · exact wpOp_of_list ho2 (hk.2.1 _ (fun a2 w2 hS2 hw2 => ⟨hS2, held_tree hs hQ t2 _ a2 w2 f2 h4 (by omega) hS2 hw2⟩))
    · rw [List.mem_singleton.1 hi]
      exact wpOp_of_list ho3 (hk.2.2 _ (fun a2 w2 hS2 hw2 => ⟨hS2, held_tree hs hQ t3 _ a2 w2 f2 h5 (by omega) hS2 hw2⟩))

theorem tree {id : Nat} {L : List Oper} (t : Tr) (hm : P.follows .mixedOrders = true) (hn : Region.noSelect L.toArray = true)
    (hB : (treeB .any L.toArray t (Array.replicate L.length false) && decide (deepB t ≤ L.length)) = true) (hS : S w.drew) (h : wpTr P L.toArray Q S t a w.drew) : (Code.region id L.toArray true).wp P Q a w := by
  simp only [Bool.and_eq_true, decide_eq_true_eq] at hB
  refine wp_region_noPanic ?_
  refine wp_region_held (S := S) hm ?_
  have hk := held_tree (Q := NoPanic Q) (md := .any) hn (fun c d v a w h => h) t (Array.replicate L.length false) a w.drew L.length hB.1 hB.2 hS (tr_mono t a w.drew h)
  simpa using hk
end
end Go.Proofs.YtpcnoiigbmiejaaDoor.tri
