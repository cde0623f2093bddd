/- Several texts in one: Hold, Idx, Ist, DecA, DecB, DecC, DecD, DecE, NewH. -/
import Derived.Test.YtpcnoiigbmiejaaDoorPk1
import Derived.Test.YtpcnoiigbmiejaaDoorPk2
import Derived.Test.YtpcnoiigbmiejaaDoorPk4
/- The holder of the program: what it has found by now, in words about memory. -/
namespace Go.Proofs.YtpcnoiigbmiejaaDoor.hold
set_option linter.unusedVariables false
set_option linter.unusedSimpArgs false
open Go.ChangeShapes Go.WideShapes Go.ChangeAt Go.RowKit
open Go.Proofs.YtpcnoiigbmiejaaDoor.lib Go.Proofs.YtpcnoiigbmiejaaDoor.fm Go.Proofs.YtpcnoiigbmiejaaDoor.fmt Go.Proofs.YtpcnoiigbmiejaaDoor.sat Go.Proofs.YtpcnoiigbmiejaaDoor.game Go.Proofs.YtpcnoiigbmiejaaDoor.keys Go.Proofs.YtpcnoiigbmiejaaDoor.mapr Go.Proofs.YtpcnoiigbmiejaaDoor.tab

/-! a block tells one formula -/
theorem rv_uniq {w : World} {v : Value} {l m : List Value} (h : RV w v l) (h2 : RV w v m) : l = m := by
  obtain ⟨ao, cap, hv, hl⟩ := h
  obtain ⟨ao2, cap2, hv2, hm⟩ := h2
  rw [hv] at hv2
  simp only [Value.slice.injEq] at hv2
  obtain ⟨rfl, hlen, rfl⟩ := hv2
  refine List.ext_getElem hlen fun i h1 h2 => ?_
  rcases hl with rfl | ⟨b, off, hb, hc⟩
  · simp at h1
  · rcases hm with rfl | ⟨b2, off2, hb2, hc2⟩
    · simp at h2
    · rw [hb] at hb2
      cases hb2
      exact Option.some.inj ((hc i h1).symm.trans (hc2 i h2))
theorem node_uniq {T : TypeId} {w : World} {H : Nat} {o o' : UInt8} {vs vs' ps ps' : List Nat} {f f' a a' : Nat} (h : fmt.Node T w H o vs ps f a) (h' : fmt.Node T w H o' vs' ps' f' a') (hv : ∀ v, v ∈ vs → v < 4) (hv' : ∀ v, v ∈ vs' → v < 4) : o = o' ∧ vs = vs' ∧ ps = ps' := by
  obtain ⟨vv, pv, h1, h2, h3⟩ := h
  obtain ⟨vv', pv', h1', h2', h3'⟩ := h'
  rw [h1] at h1'
  simp only [Option.some.injEq, Obj.cells.injEq, Array.mk.injEq, List.cons.injEq, Value.int.injEq, true_and, and_true] at h1'
  obtain ⟨ho, rfl, rfl, -, -⟩ := h1'
  refine ⟨UInt8.toNat_inj.1 (by omega), ?_, ?_⟩
  · have e := rv_uniq h2 h2'
    refine List.ext_getElem (by have := congrArg List.length e; simpa using this) fun i a1 a2 => ?_
    have := congrArg (fun l => l[i]?) e
    simp only [List.getElem?_map, List.getElem?_eq_getElem a1, List.getElem?_eq_getElem a2, Option.map_some, Option.some.injEq, Value.int.injEq, true_and] at this
    have h3 := vb_nat (hv _ (List.getElem_mem a1))
    have h4 := vb_nat (hv' _ (List.getElem_mem a2))
    omega
  · have e := rv_uniq h3 h3'
    refine List.ext_getElem (by have := congrArg List.length e; simpa using this) fun i a1 a2 => ?_
    have := congrArg (fun l => l[i]?) e
    simp only [List.getElem?_map, List.getElem?_eq_getElem a1, List.getElem?_eq_getElem a2, Option.map_some, Option.some.injEq, Value.pointer.injEq, Addr.mk.injEq, and_true] at this
    exact this
/-- the letter, the variables, the parts of a formula -/
def opOf : Fm → UInt8
  | .tf c => c
  | .p _ => 80
  | .r o _ _ => o
  | .no _ => 33
  | .two o _ _ => o
  | .qu o _ _ => o
def varsOf : Fm → List Nat
  | .p v => [v]
  | .r _ v u => [v, u]
  | .qu _ v _ => [v]
  | _ => []
theorem vars_lt : ∀ {a : Fm}, a.ok → ∀ v, v ∈ varsOf a → v < 4
  | .tf _, _, _, h => by cases h
  | .p v, hk, x, h => by
    obtain rfl := List.mem_singleton.1 h
    exact hk
  | .r _ v u, hk, x, h => by
    rcases List.mem_cons.1 h with rfl | h
    · exact hk.2.1
    · obtain rfl := List.mem_singleton.1 h
      exact hk.2.2
  | .no _, _, _, h => by cases h
  | .two _ _ _, _, _, h => by cases h
  | .qu _ v _, hk, x, h => by
    obtain rfl := List.mem_singleton.1 h
    exact hk.2.1
theorem sort_of : ∀ {a : Fm}, a.ok → sort (opOf a) = (match a with | .tf _ => .tf | .p _ => .p | .r _ _ _ => .r | .no _ => .no | .two _ _ _ => .two | .qu _ _ _ => .qu)
  | .tf _, h => h
  | .p _, _ => by show sort 80 = .p; decide
  | .r _ _ _, h => h.1
  | .no _, _ => by show sort 33 = .no; decide
  | .two _ _ _, h => h.1
  | .qu _ _ _, h => h.1
theorem tree_uniq {T : TypeId} {w : World} : ∀ {a b : Fm} {H : Nat}, a.ok → b.ok → Tree T w a H → Tree T w b H → a = b := by
  have top : ∀ {a : Fm} {H : Nat}, Tree T w a H → ∃ ps, fmt.Node T w H (opOf a) (varsOf a) ps a.free (Fm.all a) := fun {a H} h => by
    cases a with
    | tf _ => exact ⟨_, h⟩
    | p _ => exact ⟨_, h⟩
    | r _ _ _ => exact ⟨_, h⟩
    | no _ => obtain ⟨_, _, h⟩ := h; exact ⟨_, h⟩
    | two _ _ _ => obtain ⟨_, _, _, _, h⟩ := h; exact ⟨_, h⟩
    | qu _ _ _ => obtain ⟨_, _, h⟩ := h; exact ⟨_, h⟩
  intro a
  induction a with
  | tf c =>
    intro b H ha hb h1 h2
    obtain ⟨p1, n1⟩ := top h1
    obtain ⟨p2, n2⟩ := top h2
    obtain ⟨e1, e2, e3⟩ := node_uniq n1 n2 (vars_lt ha) (vars_lt hb)
    have hs1 := sort_of ha
    have hs2 := sort_of hb
    rw [e1, hs2] at hs1
    cases b <;> simp at hs1
    have e1 : c = _ := e1
    rw [e1]; rfl
  | p v =>
    intro b H ha hb h1 h2
    obtain ⟨p1, n1⟩ := top h1
    obtain ⟨p2, n2⟩ := top h2
    obtain ⟨e1, e2, e3⟩ := node_uniq n1 n2 (vars_lt ha) (vars_lt hb)
    have hs1 := sort_of ha
    have hs2 := sort_of hb
    rw [e1, hs2] at hs1
    cases b <;> simp at hs1
    have e2 : [v] = [_] := e2
    rw [(List.cons.inj e2).1]
  | r o v u =>
    intro b H ha hb h1 h2
    obtain ⟨p1, n1⟩ := top h1
    obtain ⟨p2, n2⟩ := top h2
    obtain ⟨e1, e2, e3⟩ := node_uniq n1 n2 (vars_lt ha) (vars_lt hb)
    have hs1 := sort_of ha
    have hs2 := sort_of hb
    rw [e1, hs2] at hs1
    cases b <;> simp at hs1
    have e1 : o = _ := e1
    have e2 : [v, u] = [_, _] := e2
    obtain ⟨e3, e4⟩ := List.cons.inj e2
    rw [e1, e3, (List.cons.inj e4).1]; rfl
  | no a ih =>
    intro b H ha hb h1 h2
    obtain ⟨p1, n1⟩ := top h1
    obtain ⟨p2, n2⟩ := top h2
    obtain ⟨e1, e2, e3⟩ := node_uniq n1 n2 (vars_lt ha) (vars_lt hb)
    have hs1 := sort_of ha
    have hs2 := sort_of hb
    rw [e1, hs2] at hs1
    cases b <;> simp at hs1
    obtain ⟨K, t1, m1⟩ := h1
    obtain ⟨K', t2, m2⟩ := h2
    obtain ⟨-, -, e⟩ := node_uniq m1 m2 (fun _ h => by cases h) (fun _ h => by cases h)
    cases e
    refine congrArg Fm.no (ih ha ?_ t1 t2)
    exact hb
  | two o a c iha ihc =>
    intro b H ha hb h1 h2
    obtain ⟨p1, n1⟩ := top h1
    obtain ⟨p2, n2⟩ := top h2
    obtain ⟨e1, e2, e3⟩ := node_uniq n1 n2 (vars_lt ha) (vars_lt hb)
    have hs1 := sort_of ha
    have hs2 := sort_of hb
    rw [e1, hs2] at hs1
    cases b <;> simp at hs1
    obtain ⟨K, L, t1, u1, m1⟩ := h1
    obtain ⟨K', L', t2, u2, m2⟩ := h2
    obtain ⟨e5, -, e⟩ := node_uniq m1 m2 (fun _ h => by cases h) (fun _ h => by cases h)
    cases e
    rw [e5, iha ha.2.1 hb.2.1 t1 t2, ihc ha.2.2 hb.2.2 u1 u2]
  | qu o v a ih =>
    intro b H ha hb h1 h2
    obtain ⟨p1, n1⟩ := top h1
    obtain ⟨p2, n2⟩ := top h2
    obtain ⟨e1, e2, e3⟩ := node_uniq n1 n2 (vars_lt ha) (vars_lt hb)
    have hs1 := sort_of ha
    have hs2 := sort_of hb
    rw [e1, hs2] at hs1
    cases b <;> simp at hs1
    have e2 : [v] = [_] := e2
    obtain ⟨K, t1, m1⟩ := h1
    obtain ⟨K', t2, m2⟩ := h2
    obtain ⟨e5, -, e⟩ := node_uniq m1 m2 (vars_lt ha) (vars_lt hb)
    cases e
    rw [e5, (List.cons.inj e2).1, ih ha.2.2 hb.2.2 t1 t2]

/-! what is known -/
def kvP : Nat → Value := fun n => .pointer (some ⟨n, 0, none⟩)
def kvI : Nat → Value := fun n => .int .i64 (n : Int)
/-- the numbers of values below 8 -/
def V8 (e : Nat → Nat) : Prop := ∀ u, u < 4 → e u < 8
/-- what was found of the formula at block H is so -/
def Inn (T : TypeId) (A : Gr) (w0 : World) (H : Nat) (W : World) (b : Nat) : Prop :=
  ∃ Mi, MapR W b kvI Mi ∧ ∀ n v, Mi n = some v → n ≤ 9223372036854775807 ∧ ∃ t, v = .bool t ∧ ∀ a e, a.ok → Tree T w0 a H → V8 e → keyF a.free e 4 = n → sat A a e = t
theorem Inn.block {T : TypeId} {A : Gr} {w0 : World} {H : Nat} {W W' : World} {b : Nat} (h : Inn T A w0 H W b) (hb : W'.heap[b]? = W.heap[b]?) : Inn T A w0 H W' b := by
  obtain ⟨Mi, h1, h2⟩ := h
  exact ⟨Mi, h1.block hb, h2⟩
/-- the holder's maps lie in the blocks of D; the formulas lie in w0 -/
structure Kn (T : TypeId) (A : Gr) (w0 : World) (m0 : Nat) (W : World) (D : Nat → Prop) (Mo : Nat → Option Value) : Prop where
  base : Below w0.heap.size w0 W
  lo : ∀ k, D k → w0.heap.size ≤ k
  lt : ∀ k, D k → k < W.heap.size
  d0 : D m0
  mo : MapR W m0 kvP Mo
  ent : ∀ H v, Mo H = some v → PtrAt H w0 ∧ ∃ b, v = .map (some b) ∧ D b ∧ b ≠ m0 ∧ Inn T A w0 H W b
  one : ∀ H H' b, Mo H = some (.map (some b)) → Mo H' = some (.map (some b)) → H = H'
section
variable {T : TypeId} {A : Gr} {w0 : World} {m0 : Nat} {W W' : World} {D : Nat → Prop} {Mo : Nat → Option Value}
theorem ptr_up {n : Nat} (h : PtrAt n w0) (hb : Below w0.heap.size w0 W) : PtrAt n W := by
  obtain ⟨cs, t, hc⟩ := h
  have hlt := (Array.getElem?_eq_some_iff.1 hc).1
  exact ⟨cs, t, (hb.block n hlt).trans hc⟩
theorem tree_ptr {a : Fm} {H : Nat} (h : Tree T w0 a H) : PtrAt H w0 := by
  obtain ⟨op, vs, ps, vv, pv, h1, _⟩ := h.free
  exact ⟨_, _, h1⟩
/-- the maps stay what they are -/
theorem Kn.keep (h : Kn T A w0 m0 W D Mo) (hb : ∀ k, D k ∨ k < w0.heap.size → W'.heap[k]? = W.heap[k]?) (hs : W.heap.size ≤ W'.heap.size) (ho : W'.os = W.os ∧ W'.tape = W.tape ∧ W'.output = W.output) : Kn T A w0 m0 W' D Mo where
  base := ⟨ho.1.trans h.base.os, ho.2.1.trans h.base.tape, ho.2.2.trans h.base.output, Nat.le_trans h.base.size hs, fun k hk => (hb k (.inr hk)).trans (h.base.block k hk)⟩
  lo := h.lo
  lt := fun k hk => Nat.lt_of_lt_of_le (h.lt k hk) hs
  d0 := h.d0
  mo := h.mo.block (hb m0 (.inl h.d0))
  ent := fun H v hv => by
    obtain ⟨h1, b, rfl, h2, h3, h4⟩ := h.ent H v hv
    exact ⟨h1, b, rfl, h2, h3, h4.block (hb b (.inl h2))⟩
  one := h.one
theorem Kn.below {C : Nat} (h : Kn T A w0 m0 W D Mo) (hb : Below C W W') (hC : W.heap.size ≤ C) : Kn T A w0 m0 W' D Mo :=
  h.keep (fun k hk => hb.block k (by
    rcases hk with hk | hk
    · exact Nat.lt_of_lt_of_le (h.lt k hk) hC
    · have := h.base.size; omega)) hb.size ⟨hb.os, hb.tape, hb.output⟩
/-- another block is written -/
theorem Kn.grown {g : Nat} (h : Kn T A w0 m0 W D Mo) (hg : W.grownBy W' (some g)) (hn : ¬ D g) (hg0 : w0.heap.size ≤ g) : Kn T A w0 m0 W' D Mo :=
  h.keep (fun k hk => hg.block k (by
    rcases hk with hk | hk
    · exact h.lt k hk
    · have := h.base.size; omega) (fun e => by
    have e := Option.some.inj e
    rcases hk with hk | hk
    · exact hn (e ▸ hk)
    · omega)) hg.size ⟨hg.os, hg.tape, hg.output⟩
theorem Kn.allG (h : Kn T A w0 m0 W D Mo) : ∀ n v, Mo n = some v → PtrAt n W := fun n v hv => ptr_up (h.ent n v hv).1 h.base
variable {P : Program} {kp ki tyo ti tb : TypeId} (KP : Finds P kp kvP PtrAt) (KI : Finds P ki kvI (fun n _ => n ≤ 9223372036854775807)) (ho : P.underlying tyo = some (.map kp ti)) (hi : P.underlying ti = some (.map ki tb))
  (zi : ∀ w, (zeroValue ti).run P w = .ok (.map none) w) (zb : ∀ w, (zeroValue tb).run P w = .ok (.bool false) w)
include KP KI ho hi zi zb
/-- looking a formula and its values up -/
theorem Kn.look (h : Kn T A w0 m0 W D Mo) {a : Fm} {H : Nat} (ht : Tree T w0 a H) (hk : a.ok) {e : Nat → Nat} (he : V8 e) (hn : keyF a.free e 4 ≤ 9223372036854775807) :
    ∃ v x ok, (Instr.lookup tyo (.map (some m0)) (kvP H) false).run P W = .ok v W ∧ (Instr.lookup ti v (kvI (keyF a.free e 4)) true).run P W = .ok (.tuple #[.bool x, .bool ok]) W ∧ (ok = true → sat A a e = x) := by
  have h1 := h.mo.look KP ho (zi W) h.allG (ptr_up (tree_ptr ht) h.base)
  cases hm : Mo H with
  | none =>
    rw [hm] at h1
    exact ⟨_, _, _, h1, none_look hi (zb W) KI _ hn, fun h => by cases h⟩
  | some v =>
    rw [hm] at h1
    obtain ⟨_, b, rfl, _, _, Mi, hmi, hin⟩ := h.ent H v hm
    have h2 := hmi.lookOk KI hi (zb W) (fun n v hv => (hin n v hv).1) hn
    cases hx : Mi (keyF a.free e 4) with
    | none =>
      rw [hx] at h2
      exact ⟨_, _, _, h1, h2, fun h => by cases h⟩
    | some u =>
      rw [hx] at h2
      obtain ⟨_, t, rfl, hs⟩ := hin _ u hx
      exact ⟨_, _, _, h1, h2, fun _ => hs a e hk ht he rfl⟩
omit KI hi zb in
/-- looking a formula up -/
theorem Kn.find (h : Kn T A w0 m0 W D Mo) {a : Fm} {H : Nat} (ht : Tree T w0 a H) :
    (Instr.lookup tyo (.map (some m0)) (kvP H) false).run P W = .ok (.map none) W ∧ Mo H = none ∨ ∃ b, (Instr.lookup tyo (.map (some m0)) (kvP H) false).run P W = .ok (.map (some b)) W ∧ Mo H = some (.map (some b)) := by
  have h1 := h.mo.look KP ho (zi W) h.allG (ptr_up (tree_ptr ht) h.base)
  cases hm : Mo H with
  | none => rw [hm] at h1; exact .inl ⟨h1, rfl⟩
  | some v =>
    rw [hm] at h1
    obtain ⟨_, b, rfl, _⟩ := h.ent H v hm
    exact .inr ⟨b, h1, rfl⟩
omit KI hi zi zb in
/-- a map for a formula -/
theorem Kn.fresh (h : Kn T A w0 m0 W D Mo) {a : Fm} {H b : Nat} (ht : Tree T w0 a H) (hb : W.heap.size = b) :
    ∃ W', (Instr.mapUpdate tyo (.map (some m0)) (kvP H) (.map (some b))).run P (W.alloc (.map #[] 0)) = .ok () W' ∧ Kn T A w0 m0 W' (fun k => D k ∨ k = b) (updM Mo H (.map (some b))) ∧ (W.alloc (.map #[] 0)).grownBy W' (some m0) := by
  have ha : Below W.heap.size W (W.alloc (.map #[] 0)) := (Below.refl _ _).alloc (Nat.le_refl _) _
  have h1 := h.below ha (Nat.le_refl _)
  have hnew : MapR (W.alloc (.map #[] 0)) b kvI fun _ => none := MapR.new W kvI hb
  have hm0 := h.lt _ h.d0
  obtain ⟨W', hrun, hmo, hg⟩ := h1.mo.put KP ho h1.allG (ptr_up (tree_ptr ht) h1.base) (.map (some b))
  have hkeep : ∀ k, k ≠ m0 → k < (W.alloc (.map #[] 0)).heap.size → W'.heap[k]? = (W.alloc (.map #[] 0)).heap[k]? := fun k hk hlt => hg.block k hlt fun e => hk (Option.some.inj e)
  have hsz : (W.alloc (.map #[] 0)).heap.size = b + 1 := by simp [hb]
  have hbs := h.base.size
  refine ⟨W', hrun, ⟨?_, fun k hk => ?_, fun k hk => ?_, .inl h.d0, hmo, fun H' v hv => ?_, fun H1 H2 c hc1 hc2 => ?_⟩, hg⟩
  · exact ⟨hg.os.trans h1.base.os, hg.tape.trans h1.base.tape, hg.output.trans h1.base.output, Nat.le_trans h1.base.size hg.size, fun k hk => (hkeep k (by have := h.lo _ h.d0; omega) (by omega)).trans (h1.base.block k hk)⟩
  · rcases hk with hk | rfl
    · exact h.lo k hk
    · omega
  · have := hg.size
    rcases hk with hk | rfl
    · have := h.lt k hk; omega
    · omega
  · by_cases hH : H' = H
    · subst hH
      rw [updM_same] at hv
      cases hv
      exact ⟨tree_ptr ht, b, rfl, .inr rfl, by omega, _, hnew.block (hkeep b (by omega) (by omega)), fun n v h => by cases h⟩
    · rw [updM_else hH] at hv
      obtain ⟨p1, c, rfl, p2, p3, p4⟩ := h1.ent H' v hv
      exact ⟨p1, c, rfl, .inl p2, p3, p4.block (hkeep c p3 (by have := h.lt c p2; omega))⟩
  · have old : ∀ H', H' ≠ H → Mo H' = some (.map (some c)) → c ≠ b := fun H' _ hm e => by
      obtain ⟨_, c', hc', p2, _⟩ := h.ent H' _ hm
      cases hc'
      have := h.lt c p2
      omega
    by_cases e1 : H1 = H <;> by_cases e2 : H2 = H
    · rw [e1, e2]
    · subst e1
      rw [updM_same] at hc1
      rw [updM_else e2] at hc2
      cases hc1
      exact absurd rfl (old H2 e2 hc2)
    · subst e2
      rw [updM_same] at hc2
      rw [updM_else e1] at hc1
      cases hc2
      exact absurd rfl (old H1 e1 hc1)
    · rw [updM_else e1] at hc1
      rw [updM_else e2] at hc2
      exact h.one H1 H2 c hc1 hc2
omit KP ho zi zb in
/-- a truth is kept -/
theorem Kn.note (h : Kn T A w0 m0 W D Mo) {a : Fm} {H b : Nat} (ht : Tree T w0 a H) (hk : a.ok) (hm : Mo H = some (.map (some b))) {e : Nat → Nat} (he : V8 e) (hn : keyF a.free e 4 ≤ 9223372036854775807) :
    ∃ W', (Instr.mapUpdate ti (.map (some b)) (kvI (keyF a.free e 4)) (.bool (sat A a e))).run P W = .ok () W' ∧ Kn T A w0 m0 W' D Mo ∧ W.grownBy W' (some b) ∧ D b := by
  obtain ⟨hp, b', hb', hd, hne, Mi, hmi, hin⟩ := h.ent H _ hm
  cases hb'
  obtain ⟨W', hrun, hmi', hg⟩ := hmi.put KI hi (fun n v hv => (hin n v hv).1) hn (.bool (sat A a e))
  have hkeep : ∀ k, k ≠ b → k < W.heap.size → W'.heap[k]? = W.heap[k]? := fun k hk hlt => hg.block k hlt fun e => hk (Option.some.inj e)
  have hbs := h.base.size
  refine ⟨W', hrun, ⟨?_, h.lo, fun k hk => Nat.lt_of_lt_of_le (h.lt k hk) hg.size, h.d0, h.mo.block (hkeep m0 (fun e => hne e.symm) (h.lt _ h.d0)), fun H' v hv => ?_, h.one⟩, hg, hd⟩
  · exact ⟨hg.os.trans h.base.os, hg.tape.trans h.base.tape, hg.output.trans h.base.output, Nat.le_trans hbs hg.size, fun k hk => (hkeep k (by have := h.lo _ hd; omega) (by omega)).trans (h.base.block k hk)⟩
  · obtain ⟨p1, c, rfl, p2, p3, p4⟩ := h.ent H' v hv
    refine ⟨p1, c, rfl, p2, p3, ?_⟩
    by_cases hc : c = b
    · subst hc
      obtain rfl := h.one H' H c hv hm
      refine ⟨_, hmi', fun n v hv => ?_⟩
      by_cases hnk : n = keyF a.free e 4
      · subst hnk
        rw [updM_same] at hv
        cases hv
        refine ⟨hn, _, rfl, fun a' e' hk' ht' he' hkey => ?_⟩
        obtain rfl := tree_uniq hk' hk ht' ht
        exact sat_key hk he' he hkey
      · rw [updM_else hnk] at hv
        exact hin n v hv
    · exact p4.block (hkeep c hc (h.lt c p2))
end
end Go.Proofs.YtpcnoiigbmiejaaDoor.hold

/- Reading an array of four numbers. -/
namespace Go.Proofs.YtpcnoiigbmiejaaDoor.idx
set_option linter.unusedVariables false
set_option linter.unusedSimpArgs false
open Go.ChangeShapes Go.WideShapes Go.ChangeAt Go.RowKit
theorem idx4 (v0 v1 v2 v3 : Value) (w : World) :
    (Instr.index 131 (.agg #[v0, v1, v2, v3]) (.int .i64 0)).run Tryd.prog w = .ok v0 w ∧ (Instr.index 131 (.agg #[v0, v1, v2, v3]) (.int .i64 1)).run Tryd.prog w = .ok v1 w ∧
    (Instr.index 131 (.agg #[v0, v1, v2, v3]) (.int .i64 2)).run Tryd.prog w = .ok v2 w ∧ (Instr.index 131 (.agg #[v0, v1, v2, v3]) (.int .i64 3)).run Tryd.prog w = .ok v3 w := by
  have h4 : Tryd.prog.underlying 131 = some (.array 4 3) := by kernel_rfl
  have h1 : Tryd.prog.underlying 3 = some (.int .i64) := Tryd.underlying3
  have h0 : (Tryd.prog.info? 3).map (fun i => i.size) = some 1 := by kernel_rfl
  cases h : Tryd.prog.info? 3 with
  | none => rw [h] at h0; cases h0
  | some j =>
    rw [h] at h0
    have h2 : j.size = 1 := Option.some.inj h0
    refine ⟨?_, ?_, ?_, ?_⟩ <;> simp [Instr.index, asIntOf, part, isAgg, run_underlying h4, run_underlying h1, sizeOf, typeInfo, h, h2, Result.andThen]
end Go.Proofs.YtpcnoiigbmiejaaDoor.idx

/- isTrue of the holder, given decide. -/
namespace Go.Proofs.YtpcnoiigbmiejaaDoor.ist
set_option linter.unusedVariables false
set_option linter.unusedSimpArgs false
open Go.ChangeShapes Go.WideShapes Go.ChangeAt Go.RowKit
open Go.Proofs.YtpcnoiigbmiejaaDoor.lib Go.Proofs.YtpcnoiigbmiejaaDoor.fm Go.Proofs.YtpcnoiigbmiejaaDoor.fmt Go.Proofs.YtpcnoiigbmiejaaDoor.sat Go.Proofs.YtpcnoiigbmiejaaDoor.game Go.Proofs.YtpcnoiigbmiejaaDoor.keys Go.Proofs.YtpcnoiigbmiejaaDoor.idx Go.Proofs.YtpcnoiigbmiejaaDoor.mapr Go.Proofs.YtpcnoiigbmiejaaDoor.tab Go.Proofs.YtpcnoiigbmiejaaDoor.hold

theorem or_nat {x y : Nat} (hx : x < 2 ^ 62) (hy : y < 2 ^ 62) : bits .or .i64 (x : Int) (y : Int) = ((x ||| y : Nat) : Int) := by
  have h := Nat.or_lt_two_pow hx hy
  have e1 : (BitVec.ofInt 64 (x : Int)).toNat = x := by rw [BitVec.toNat_ofInt]; omega
  have e2 : (BitVec.ofInt 64 (y : Int)).toNat = y := by rw [BitVec.toNat_ofInt]; omega
  show IntKind.wrap .i64 (((BitVec.ofInt 64 (x : Int) ||| BitVec.ofInt 64 (y : Int)).toNat : Nat) : Int) = _
  rw [BitVec.toNat_or, e1, e2]
  rw [IntKind.wrap_i64]; omega
theorem b_in0 : ∀ a : Fin 16, ∀ v : Fin 4, (bits .and .i64 (((a.1 : Nat) : Int) / ((2 ^ v.1 : Nat) : Int)) 1 == 1) = inS a.1 v.1 := by decide
theorem b_in {s k : Nat} (h : s < 16) (hk : k < 4) : (bits .and .i64 ((s : Int) / ((2 ^ k : Nat) : Int)) 1 == 1) = inS s k := b_in0 ⟨s, h⟩ ⟨k, hk⟩
/-- what lies outside of D stays -/
structure Out (D : Nat → Prop) (W W' : World) : Prop where
  os : W'.os = W.os
  tape : W'.tape = W.tape
  output : W'.output = W.output
  size : W.heap.size ≤ W'.heap.size
  block : ∀ k, k < W.heap.size → ¬ D k → W'.heap[k]? = W.heap[k]?
theorem Out.refl (D : Nat → Prop) (W : World) : Out D W W := ⟨rfl, rfl, rfl, Nat.le_refl _, fun _ _ _ => rfl⟩
theorem Out.of {D : Nat → Prop} {W W' : World} {C : Nat} (h : Below C W W') (hC : W.heap.size ≤ C) : Out D W W' :=
  ⟨h.os, h.tape, h.output, h.size, fun k hk _ => h.block k (by omega)⟩
theorem Out.grown {D : Nat → Prop} {W W' : World} {g : Nat} (h : W.grownBy W' (some g)) (hg : D g ∨ W.heap.size ≤ g) : Out D W W' :=
  ⟨h.os, h.tape, h.output, h.size, fun k hk hD => h.block k hk fun e => by
    have e := Option.some.inj e
    subst e
    rcases hg with hg | hg
    · exact hD hg
    · omega⟩
theorem Out.trans {D D1 : Nat → Prop} {W W1 W2 : World} (h1 : Out D W W1) (h2 : Out D1 W1 W2) (hD : ∀ k, D1 k → D k ∨ W.heap.size ≤ k) : Out D W W2 :=
  ⟨h2.os.trans h1.os, h2.tape.trans h1.tape, h2.output.trans h1.output, Nat.le_trans h1.size h2.size, fun k hk hn => (h2.block k (by have := h1.size; omega) (fun h => by
    rcases hD k h with h | h
    · exact hn h
    · omega)).trans (h1.block k hk hn)⟩
section
variable (N : Nat) (s r : ByteArray) (w0 : World) (m0 h0 : Nat)
/-- a holder in memory -/
def HoldAt (W : World) : Prop := W.heap[h0]? = some (.cells #[.int .i64 (N : Int), .string s, .string r, .map (some m0)] 130 (0, 0))
/-- a holder and what it knows -/
def St (A : Gr) (W : World) (D : Nat → Prop) : Prop := ∃ Mo, Kn 84 A w0 m0 W D Mo ∧ HoldAt N s r m0 h0 W ∧ ¬ D h0
/-- the answer b, and more known -/
def Post (A : Gr) (W : World) (D : Nat → Prop) (b : Bool) (e : Ending) (W' : World) : Prop :=
  ∃ D', e = .returned (.bool b) ∧ St N s r w0 m0 h0 A W' D' ∧ Out D W W' ∧ ∀ k, D' k → D k ∨ W.heap.size ≤ k
def vals (e : Nat → Nat) : Value := .agg #[.int .i64 (e 0 : Nat), .int .i64 (e 1 : Nat), .int .i64 (e 2 : Nat), .int .i64 (e 3 : Nat)]
def DecP (A : Gr) (a : Fm) : Prop := ∀ (H : Nat) (D : Nat → Prop) (W : World) (e : Nat → Nat), Tree 84 w0 a H → V8 e → (∀ u, u < 4 → inS a.free u = true → e u < A.n) → St N s r w0 m0 h0 A W D →
  Calls Tryd.prog 178 #[.pointer (some ⟨h0, 0, none⟩), .pointer (some ⟨H, 0, none⟩), vals e] W (Post N s r w0 m0 h0 A W D (sat A a e))
def TruP (A : Gr) (a : Fm) : Prop := ∀ (H : Nat) (D : Nat → Prop) (W : World) (e : Nat → Nat), Tree 84 w0 a H → V8 e → (∀ u, u < 4 → inS a.free u = true → e u < A.n) → St N s r w0 m0 h0 A W D →
  Calls Tryd.prog 136 #[.pointer (some ⟨h0, 0, none⟩), .pointer (some ⟨H, 0, none⟩), vals e] W (Post N s r w0 m0 h0 A W D (sat A a e))
variable {N s r w0 m0 h0}
theorem HoldAt.c {W : World} (h : HoldAt N s r m0 h0 W) : W.cell? ⟨h0, 0, none⟩ = some (.int .i64 (N : Int)) ∧ W.cell? ⟨h0, 1, none⟩ = some (.string s) ∧ W.cell? ⟨h0, 2, none⟩ = some (.string r) ∧ W.cell? ⟨h0, 3, none⟩ = some (.map (some m0)) := by
  unfold HoldAt at h
  refine ⟨?_, ?_, ?_, ?_⟩ <;> simp [World.cell?, h]
theorem HoldAt.lt {W : World} (h : HoldAt N s r m0 h0 W) : h0 < W.heap.size := (Array.getElem?_eq_some_iff.1 h).1
theorem St.below {A : Gr} {W W' : World} {D : Nat → Prop} {C : Nat} (h : St N s r w0 m0 h0 A W D) (hb : Below C W W') (hC : W.heap.size ≤ C) : St N s r w0 m0 h0 A W' D := by
  obtain ⟨Mo, h1, h2, h3⟩ := h
  exact ⟨Mo, h1.below hb hC, (hb.block _ (Nat.lt_of_lt_of_le h2.lt hC)).trans h2, h3⟩
theorem findsP : Finds Tryd.prog 80 kvP PtrAt := by
  have h0 : (Tryd.prog.info? 84).map (fun i => decide (i.size ≠ 0)) = some true := by kernel_rfl
  cases h : Tryd.prog.info? 84 with
  | none => rw [h] at h0; cases h0
  | some j =>
    rw [h] at h0
    exact finds_ptr Tryd.underlying80 h (of_decide_eq_true (Option.some.inj h0))
theorem findsI : Finds Tryd.prog 3 kvI (fun n _ => n ≤ 9223372036854775807) := by
  exact finds_int Tryd.underlying3
theorem undM : Tryd.prog.underlying 128 = some (.map 80 163) := by kernel_rfl
theorem undI : Tryd.prog.underlying 163 = some (.map 3 4) := by kernel_rfl
theorem zeroI (w : World) : (zeroValue 163).run Tryd.prog w = .ok (.map none) w := by kernel_rfl
theorem zeroB (w : World) : (zeroValue 4).run Tryd.prog w = .ok (.bool false) w := by kernel_rfl
theorem eqN (W : World) : Sem.run Tryd.prog (Go.binOp BinOp.eql 163 (.map none) (.map none)) W = .ok (.bool true) W := by kernel_rfl
theorem eqS (b : Nat) (W : World) : Sem.run Tryd.prog (Go.binOp BinOp.eql 163 (.map (some b)) (.map none)) W = .ok (.bool false) W := by kernel_rfl
theorem mkM (W : World) : Sem.run Tryd.prog (Instr.makeMap 163 none) W = .ok (.map (some W.heap.size)) (W.alloc (.map #[] 0)) := by rfl
theorem key_or {f k : Nat} {e : Nat → Nat} (h : V8 e) (hb : inS f k = true) (hk : k < 4) : bits .or .i64 (keyF f e k : Nat) ((e k * 2 ^ (3 * k) : Nat) : Int) = (keyF f e (k + 1) : Nat) := by
  have l1 := key_lt (s := f) h k (by omega)
  have l2 : 2 ^ (3 * k) ≤ 2 ^ 12 := Nat.pow_le_pow_right (by decide) (by omega)
  have h2 := h k hk
  have l3 : e k * 2 ^ (3 * k) ≤ 7 * 2 ^ 12 := Nat.mul_le_mul (by omega) l2
  rw [or_nat (by omega) (by omega)]
  show _ = ((if inS f k = true then keyF f e k ||| e k <<< (3 * k) else keyF f e k : Nat) : Int)
  rw [if_pos hb, Nat.shiftLeft_eq]
theorem key_or0 {f : Nat} {e : Nat → Nat} (h : V8 e) (hb : inS f 0 = true) : bits .or .i64 (keyF f e 0 : Nat) (e 0 : Nat) = (keyF f e 1 : Nat) := by
  have := key_or (k := 0) h hb (by decide)
  rwa [show e 0 * 2 ^ (3 * 0) = e 0 from Nat.mul_one _] at this
theorem key_or1 {f : Nat} {e : Nat → Nat} (h : V8 e) (hb : inS f 1 = true) : bits .or .i64 (keyF f e 1 : Nat) ((e 1 : Nat) * 8) = (keyF f e 2 : Nat) := by
  have := key_or (k := 1) h hb (by decide)
  rwa [Int.natCast_mul, show ((2 ^ (3 * 1) : Nat) : Int) = 8 from rfl] at this
theorem key_or2 {f : Nat} {e : Nat → Nat} (h : V8 e) (hb : inS f 2 = true) : bits .or .i64 (keyF f e 2 : Nat) ((e 2 : Nat) * 64) = (keyF f e 3 : Nat) := by
  have := key_or (k := 2) h hb (by decide)
  rwa [Int.natCast_mul, show ((2 ^ (3 * 2) : Nat) : Int) = 64 from rfl] at this
theorem key_or3 {f : Nat} {e : Nat → Nat} (h : V8 e) (hb : inS f 3 = true) : bits .or .i64 (keyF f e 3 : Nat) ((e 3 : Nat) * 512) = (keyF f e 4 : Nat) := by
  have := key_or (k := 3) h hb (by decide)
  rwa [Int.natCast_mul, show ((2 ^ (3 * 3) : Nat) : Int) = 512 from rfl] at this
theorem ix0 (v0 v1 v2 v3 : Value) (w : World) : Sem.run Tryd.prog (Instr.index 131 (.agg #[v0, v1, v2, v3]) (.int .i64 0)) w = .ok v0 w := (idx4 v0 v1 v2 v3 w).1
theorem ix1 (v0 v1 v2 v3 : Value) (w : World) : Sem.run Tryd.prog (Instr.index 131 (.agg #[v0, v1, v2, v3]) (.int .i64 1)) w = .ok v1 w := (idx4 v0 v1 v2 v3 w).2.1
theorem ix2 (v0 v1 v2 v3 : Value) (w : World) : Sem.run Tryd.prog (Instr.index 131 (.agg #[v0, v1, v2, v3]) (.int .i64 2)) w = .ok v2 w := (idx4 v0 v1 v2 v3 w).2.2.1
theorem ix3 (v0 v1 v2 v3 : Value) (w : World) : Sem.run Tryd.prog (Instr.index 131 (.agg #[v0, v1, v2, v3]) (.int .i64 3)) w = .ok v3 w := (idx4 v0 v1 v2 v3 w).2.2.2
set_option maxHeartbeats 6400000 in
set_option maxRecDepth 100000 in
theorem isTrue_of {A : Gr} {a : Fm} (hk : a.ok) (dc : DecP N s r w0 m0 h0 A a) : TruP N s r w0 m0 h0 A a := by
  intro H D W e ht hv hf hst
  obtain ⟨W1, hW1⟩ : ∃ W1, W1 = W.alloc (.cells #[.int .i64 (e 0 : Nat), .int .i64 (e 1 : Nat), .int .i64 (e 2 : Nat), .int .i64 (e 3 : Nat)] 131) := ⟨_, rfl⟩
  have hb1 : Below W.heap.size W W1 := by rw [hW1]; exact (Below.refl _ _).alloc (Nat.le_refl _) _
  have hs1 := hst.below hb1 (Nat.le_refl _)
  have HT := Lib.hid ht
  have HF := Lib.hid hf
  have HV := Lib.hid hv
  have HK := Lib.hid hk
  have HDC := Lib.hid dc
  have HS1 := Lib.hid hs1
  have HB1 := Lib.hid hb1
  have HW1 := Lib.hid hW1
  have hbx : W1.heap[W.heap.size]? = some (.cells #[.int .i64 (e 0 : Nat), .int .i64 (e 1 : Nat), .int .i64 (e 2 : Nat), .int .i64 (e 3 : Nat)] 131 (0, 0)) := by rw [hW1]; exact heap_alloc_new W _
  have HBX := Lib.hid hbx
  have hfl : a.free < 16 := Fm.free_lt hk
  have HFL := Lib.hid hfl
  obtain ⟨op, vs, ps, hnode⟩ := ht.free
  obtain ⟨vv, pv, -, -, -, -, -, cf0, -⟩ := hnode.cells
  have cf : W1.cell? ⟨H, 3, none⟩ = some (.int .i64 (a.free : Nat)) := by
    obtain ⟨Mo, hkn, _⟩ := hs1
    rw [hkn.base.cell (p := ⟨H, 3, none⟩) hnode.lt]
    exact cf0
  clear hnode cf0
  have he0 := hv 0 (by decide)
  have he1 := hv 1 (by decide)
  have he2 := hv 2 (by decide)
  have he3 := hv 3 (by decide)
  clear ht hf hv hk dc hst hs1 hb1 hW1 hbx hfl
  unfold vals
  go_enter Tryd.func136, Tryd.ntmps136
  go_upto_region 1 with (fail)
  rw [← HW1.out]
  have c0 : W1.cell? ⟨W.heap.size, 0, none⟩ = some (.int .i64 (e 0 : Nat)) := by simp [World.cell?, HBX.out]
  have c1 : W1.cell? ⟨W.heap.size, 1, none⟩ = some (.int .i64 (e 1 : Nat)) := by simp [World.cell?, HBX.out]
  have c2 : W1.cell? ⟨W.heap.size, 2, none⟩ = some (.int .i64 (e 2 : Nat)) := by simp [World.cell?, HBX.out]
  have c3 : W1.cell? ⟨W.heap.size, 3, none⟩ = some (.int .i64 (e 3 : Nat)) := by simp [World.cell?, HBX.out]
  go_wp2_with fail
  go_loopw [7, 8, 9, 14] (fun v7 v8 v9 v14 wr => ∃ k : Nat, k ≤ 4 ∧ v14 = .int .i64 (k : Nat) ∧ v7 = .int .i64 (keyF a.free e k : Nat) ∧ W1 = wr) (fun _ _ _ i _ => 4 - (intOf i).toNat)
  case atStart => exact ⟨0, Nat.zero_le _, rfl, rfl, rfl⟩
  case round =>
    obtain ⟨k, hk4, rfl, rfl, rfl⟩ := hrel
    by_cases hlt : k < 4
    · obtain rfl | rfl | rfl | rfl : k = 0 ∨ k = 1 ∨ k = 2 ∨ k = 3 := by omega
      · have tb : (bits .and .i64 (a.free : Int) 1 == 1) = inS a.free 0 := by have := b_in (k := 0) HFL.out (by decide); simpa using this
        cases hb : inS a.free 0 with
        | false =>
          rw [hb] at tb
          have ky : keyF a.free e 1 = keyF a.free e 0 := by show (if inS a.free 0 = true then _ else _) = _; rw [hb]; rfl
          have ix := ix0
          go_wp2
          go_roundw
          case rel => exact ⟨1, by decide, by go_num, by rw [ky], trivial⟩
          case measure => simp [intOf]
        | true =>
          rw [hb] at tb
          have ix := ix0
          go_wp2
          go_roundw
          case rel => exact ⟨1, by decide, by go_num, by rw [← key_or0 HV.out hb], trivial⟩
          case measure => simp [intOf]
      · have tb : (bits .and .i64 ((a.free : Int) / 2) 1 == 1) = inS a.free 1 := by have := b_in (k := 1) HFL.out (by decide); simpa using this
        cases hb : inS a.free 1 with
        | false =>
          rw [hb] at tb
          have ky : keyF a.free e 2 = keyF a.free e 1 := by show (if inS a.free 1 = true then _ else _) = _; rw [hb]; rfl
          have ix := ix1
          go_wp2
          go_roundw
          case rel => exact ⟨2, by decide, by go_num, by rw [ky], trivial⟩
          case measure => simp [intOf]
        | true =>
          rw [hb] at tb
          have ix := ix1
          go_wp2
          go_roundw
          case rel => exact ⟨2, by decide, by go_num, by rw [← key_or1 HV.out hb], trivial⟩
          case measure => simp [intOf]
      · have tb : (bits .and .i64 ((a.free : Int) / 4) 1 == 1) = inS a.free 2 := by have := b_in (k := 2) HFL.out (by decide); simpa using this
        cases hb : inS a.free 2 with
        | false =>
          rw [hb] at tb
          have ky : keyF a.free e 3 = keyF a.free e 2 := by show (if inS a.free 2 = true then _ else _) = _; rw [hb]; rfl
          have ix := ix2
          go_wp2
          go_roundw
          case rel => exact ⟨3, by decide, by go_num, by rw [ky], trivial⟩
          case measure => simp [intOf]
        | true =>
          rw [hb] at tb
          have ix := ix2
          go_wp2
          go_roundw
          case rel => exact ⟨3, by decide, by go_num, by rw [← key_or2 HV.out hb], trivial⟩
          case measure => simp [intOf]
      · have tb : (bits .and .i64 ((a.free : Int) / 8) 1 == 1) = inS a.free 3 := by have := b_in (k := 3) HFL.out (by decide); simpa using this
        cases hb : inS a.free 3 with
        | false =>
          rw [hb] at tb
          have ky : keyF a.free e 4 = keyF a.free e 3 := by show (if inS a.free 3 = true then _ else _) = _; rw [hb]; rfl
          have ix := ix3
          go_wp2
          go_roundw
          case rel => exact ⟨4, by decide, by go_num, by rw [ky], trivial⟩
          case measure => simp [intOf]
        | true =>
          rw [hb] at tb
          have ix := ix3
          go_wp2
          go_roundw
          case rel => exact ⟨4, by decide, by go_num, by rw [← key_or3 HV.out hb], trivial⟩
          case measure => simp [intOf]
    · obtain rfl : k = 4 := by omega
      clear hlt hk4 c0 c1 c2 c3 cf he0 he1 he2 he3
      obtain ⟨Mo, hkn, hha, hnd⟩ := HS1.out
      have hkey : keyF a.free e 4 ≤ 9223372036854775807 := by
        have := key_lt (s := a.free) HV.out 4 (by decide)
        have : keyF a.free e 4 < 4096 := this
        omega
      obtain ⟨v, x, ok, hl1, hl2, hl3⟩ := hkn.look findsP findsI undM undI zeroI zeroB HT.out HK.out HV.out hkey
      obtain ⟨q0, q1, q2, q3⟩ := hha.c
      have HL3 := Lib.hid hl3
      have HK4 := Lib.hid hkey
      unfold kvP at hl1
      unfold kvI at hl2
      clear q0 q1 q2 hkn hha hnd hl3 hkey
      cases ok with
      | true =>
        go_wp2
        go_ret
        exact ⟨D, by rw [HL3.out trivial]; rfl, HS1.out, Out.of HB1.out (Nat.le_refl _), fun k hk => .inl hk⟩
      | false =>
        have c0 : W1.cell? ⟨W.heap.size, 0, none⟩ = some (.int .i64 (e 0 : Nat)) := by simp [World.cell?, HBX.out]
        have c1 : W1.cell? ⟨W.heap.size, 1, none⟩ = some (.int .i64 (e 1 : Nat)) := by simp [World.cell?, HBX.out]
        have c2 : W1.cell? ⟨W.heap.size, 2, none⟩ = some (.int .i64 (e 2 : Nat)) := by simp [World.cell?, HBX.out]
        have c3 : W1.cell? ⟨W.heap.size, 3, none⟩ = some (.int .i64 (e 3 : Nat)) := by simp [World.cell?, HBX.out]
        go_wp2_with fail
        clear c0 c1 c2 c3 hl1 hl2 HL3 q3
        refine (HDC.out H D W1 e HT.out HV.out HF.out HS1.out).mono ?_
        rintro e2 W2 ⟨D2, rfl, hs2, ho2, hg2⟩
        have hsz1 := HB1.out.size
        have ho2' : Out D W W2 := (Out.of HB1.out (Nat.le_refl _)).trans ho2 fun k hk => .inl hk
        have hg2' : ∀ k, D2 k → D k ∨ W.heap.size ≤ k := fun k hk => by
          rcases hg2 k hk with h | h
          · exact .inl h
          · exact .inr (by omega)
        have HO2 := Lib.hid ho2'
        have HG2 := Lib.hid hg2'
        clear ho2' hg2' ho2 hg2 hsz1
        obtain ⟨Mo2, hkn2, hha2, hnd2⟩ := hs2
        have HN2 := Lib.hid hnd2
        have HA2 := Lib.hid hha2
        have q3 := hha2.c.2.2.2
        clear hnd2 hha2
        rcases hkn2.find findsP undM zeroI HT.out with ⟨hf, hM⟩ | ⟨b, hf, hM⟩
        · obtain ⟨b, hb⟩ : ∃ b, W2.heap.size = b := ⟨_, rfl⟩
          obtain ⟨W3, hr3, hkn3, hg3⟩ := hkn2.fresh findsP undM HT.out hb
          have hnh : ∀ g, Mo2 g = none → True := fun _ _ => trivial
          have hm0 : h0 ≠ m0 := fun e => HN2.out (e ▸ hkn2.d0)
          have hlt := HA2.out.lt
          have hh3 : HoldAt N s r m0 h0 W3 := by
            have e1 : W3.heap[h0]? = (W2.alloc (.map #[] 0)).heap[h0]? := hg3.block h0 (by simp; omega) fun e => hm0 (Option.some.inj e)
            have e2 : (W2.alloc (.map #[] 0)).heap[h0]? = W2.heap[h0]? := heap_alloc_old W2 _ hlt
            exact (e1.trans e2).trans HA2.out
          have hM3 : updM Mo2 H (.map (some b)) H = some (.map (some b)) := updM_same
          obtain ⟨W4, hr4, hkn4, hg4, hd4⟩ := hkn3.note findsI undI HT.out HK.out hM3 HV.out HK4.out
          have q3' := hh3.c.2.2.2
          have hf3 : (Instr.lookup 128 (.map (some m0)) (kvP H) false).run Tryd.prog W3 = .ok (.map (some b)) W3 := by
            rcases hkn3.find findsP undM zeroI HT.out with ⟨_, h⟩ | ⟨b', h1, h2⟩
            · rw [hM3] at h; cases h
            · rw [hM3] at h2; cases h2; exact h1
          have hh4 : HoldAt N s r m0 h0 W4 := by
            have hl3 := hh3.lt
            exact (hg4.block h0 hl3 fun e => (by
              have e := Option.some.inj e
              omega)).trans hh3
          have hres : Post N s r w0 m0 h0 A W D (sat A a e) (.returned (.bool (sat A a e))) W4 := by
            have hal : Below W2.heap.size W2 (W2.alloc (.map #[] 0)) := (Below.refl _ _).alloc (Nat.le_refl _) _
            have o3 : Out D2 W2 W3 := (Out.of hal (Nat.le_refl _)).trans (Out.grown hg3 (.inl hkn2.d0)) fun k hk => .inl hk
            have o4 : Out (fun k => D2 k ∨ k = b) W3 W4 := Out.grown hg4 (.inl (.inr rfl))
            have hs := HO2.out.size
            refine ⟨_, rfl, ⟨_, hkn4, hh4, fun h => ?_⟩, (HO2.out.trans o3 HG2.out).trans o4 fun k hk => ?_, fun k hk => ?_⟩
            · rcases h with h | h
              · exact HN2.out h
              · omega
            · rcases hk with h | rfl
              · exact HG2.out k h
              · exact .inr (by omega)
            · rcases hk with h | rfl
              · exact HG2.out k h
              · exact .inr (by omega)
          have HR := Lib.hid hres
          unfold kvP at hf hr3 hf3
          unfold kvI at hr4
          clear hkn2 hkn3 hkn4 hg3 hg4 hd4 hh3 hh4 hres hM hM3 hnh hm0 hlt HN2 HA2 HO2 HG2
          have hq := eqN
          have hmk : Sem.run Tryd.prog (Instr.makeMap 163 none) W2 = .ok (.map (some b)) (W2.alloc (.map #[] 0)) := by rw [← hb]; exact mkM W2
          clear hb
          go_wp2
          go_ret
          exact HR.out
        · have hlt := HA2.out.lt
          obtain ⟨W4, hr4, hkn4, hg4, hd4⟩ := hkn2.note findsI undI HT.out HK.out hM HV.out HK4.out
          have hh4 : HoldAt N s r m0 h0 W4 := (hg4.block h0 hlt fun e => HN2.out ((Option.some.inj e) ▸ hd4)).trans HA2.out
          have hres : Post N s r w0 m0 h0 A W D (sat A a e) (.returned (.bool (sat A a e))) W4 :=
            ⟨D2, rfl, ⟨_, hkn4, hh4, HN2.out⟩, HO2.out.trans (Out.grown (D := D2) hg4 (.inl hd4)) HG2.out, HG2.out⟩
          have HR := Lib.hid hres
          unfold kvP at hf
          unfold kvI at hr4
          clear hkn2 hkn4 hg4 hd4 hh4 hres hM hlt HN2 HA2 HO2 HG2
          have hq := eqS b
          go_wp2
          go_ret
          exact HR.out
end
end Go.Proofs.YtpcnoiigbmiejaaDoor.ist

/- decide of the holder: the reading of a variable's value; formulas without parts. -/
namespace Go.Proofs.YtpcnoiigbmiejaaDoor.ist
set_option linter.unusedVariables false
set_option linter.unusedSimpArgs false
open Go.ChangeShapes Go.WideShapes Go.ChangeAt Go.RowKit
open Go.Proofs.YtpcnoiigbmiejaaDoor.lib Go.Proofs.YtpcnoiigbmiejaaDoor.st Go.Proofs.YtpcnoiigbmiejaaDoor.flow Go.Proofs.YtpcnoiigbmiejaaDoor.base Go.Proofs.YtpcnoiigbmiejaaDoor.fm Go.Proofs.YtpcnoiigbmiejaaDoor.fmt Go.Proofs.YtpcnoiigbmiejaaDoor.sat Go.Proofs.YtpcnoiigbmiejaaDoor.game Go.Proofs.YtpcnoiigbmiejaaDoor.keys Go.Proofs.YtpcnoiigbmiejaaDoor.mapr Go.Proofs.YtpcnoiigbmiejaaDoor.tab Go.Proofs.YtpcnoiigbmiejaaDoor.hold

theorem rv1 {W : World} {v x : Value} {l : List Value} (h : RV W v (x :: l)) : ∃ b off cap, v = .slice (some ⟨b, off, none⟩) (l.length + 1) cap ∧ ∀ i (hi : i < l.length + 1), W.cell? ⟨b, off + i, none⟩ = some ((x :: l)[i]'hi) := by
  obtain ⟨ao, cap, hv, hl⟩ := h
  rcases hl with h | ⟨b, off, rfl, hc⟩
  · cases h
  · exact ⟨b, off, cap, hv, hc⟩
/-- the boxes of decide: the formula, the values -/
structure Pre (W W1 : World) (e : Nat → Nat) (H : Nat) (op : UInt8) (vs ps : List Nat) (fr al : Nat) : Prop where
  bel : Below W.heap.size W W1
  b4 : W1.heap[W.heap.size]? = some (.cells #[.pointer (some ⟨H, 0, none⟩)] 80 (0, 0))
  b5 : W1.heap[W.heap.size + 1]? = some (.cells #[.int .i64 (e 0 : Nat), .int .i64 (e 1 : Nat), .int .i64 (e 2 : Nat), .int .i64 (e 3 : Nat)] 131 (0, 0))
  sz : W1.heap.size = W.heap.size + 2
  node : fmt.Node 84 W1 H op vs ps fr al
section
variable {N : Nat} {s r : ByteArray} {w0 : World} {m0 h0 : Nat}
theorem pre_of {A : Gr} {D : Nat → Prop} {W : World} {e : Nat → Nat} {H : Nat} {op : UInt8} {vs ps : List Nat} {fr al : Nat} (hst : St N s r w0 m0 h0 A W D) (hn : fmt.Node 84 w0 H op vs ps fr al) {W1 : World}
    (hW : W1 = (W.alloc (.cells #[.pointer (some ⟨H, 0, none⟩)] 80)).alloc (.cells #[.int .i64 (e 0 : Nat), .int .i64 (e 1 : Nat), .int .i64 (e 2 : Nat), .int .i64 (e 3 : Nat)] 131)) :
    Pre W W1 e H op vs ps fr al ∧ St N s r w0 m0 h0 A W1 D := by
  have hb : Below W.heap.size W W1 := by rw [hW]; exact ((Below.refl _ _).alloc (Nat.le_refl _) _).alloc (by simp) _
  have hs := hst.below hb (Nat.le_refl _)
  refine ⟨⟨hb, ?_, ?_, ?_, ?_⟩, hs⟩
  · rw [hW, heap_alloc_old _ _ (by simp)]; exact heap_alloc_new W _
  · rw [hW]
    have := heap_alloc_new (W.alloc (.cells #[.pointer (some ⟨H, 0, none⟩)] 80)) (.cells #[.int .i64 (e 0 : Nat), .int .i64 (e 1 : Nat), .int .i64 (e 2 : Nat), .int .i64 (e 3 : Nat)] 131)
    rwa [World.size_alloc] at this
  · rw [hW, World.size_alloc, World.size_alloc]
  · obtain ⟨Mo, hkn, _⟩ := hs
    exact hn.below hkn.base (Nat.le_refl _)
theorem Pre.c {W W1 : World} {e : Nat → Nat} {H : Nat} {op : UInt8} {vs ps : List Nat} {fr al : Nat} (h : Pre W W1 e H op vs ps fr al) :
    W1.cell? ⟨W.heap.size, 0, none⟩ = some (.pointer (some ⟨H, 0, none⟩)) ∧ W1.cell? ⟨W.heap.size + 1, 0, none⟩ = some (.int .i64 (e 0 : Nat)) ∧ W1.cell? ⟨W.heap.size + 1, 1, none⟩ = some (.int .i64 (e 1 : Nat)) ∧ W1.cell? ⟨W.heap.size + 1, 2, none⟩ = some (.int .i64 (e 2 : Nat)) ∧ W1.cell? ⟨W.heap.size + 1, 3, none⟩ = some (.int .i64 (e 3 : Nat)) := by
  refine ⟨?_, ?_, ?_, ?_, ?_⟩ <;> simp [World.cell?, h.b4, h.b5]

set_option maxHeartbeats 1600000 in
set_option maxRecDepth 100000 in
/-- the value of the formula's variable i -/
theorem at_any (g4 g5 H i b off len cap v : Nat) (e : Nat → Nat) (W : World) (hi : i < 2) (hil : i < len) (hv : v < 4) (c4 : W.cell? ⟨g4, 0, none⟩ = some (.pointer (some ⟨H, 0, none⟩))) (c1 : W.cell? ⟨H, 1, none⟩ = some (.slice (some ⟨b, off, none⟩) len cap))
    (cl : W.cell? ⟨b, off + i, none⟩ = some (.int .u8 (vb v).toNat)) (h0 : W.cell? ⟨g5, 0, none⟩ = some (.int .i64 (e 0 : Nat))) (h1 : W.cell? ⟨g5, 1, none⟩ = some (.int .i64 (e 1 : Nat))) (h2 : W.cell? ⟨g5, 2, none⟩ = some (.int .i64 (e 2 : Nat))) (h3 : W.cell? ⟨g5, 3, none⟩ = some (.int .i64 (e 3 : Nat))) :
    Calls Tryd.prog 200 #[.int .i64 (i : Nat), .pointer (some ⟨g5, 0, none⟩), .pointer (some ⟨g4, 0, none⟩)] W fun e' w' => e' = .returned (.int .i64 (e v : Nat)) ∧ w' = W := by
  have tl : decide ((i : Int) < (len : Int)) = true := by simp; omega
  have key : ∀ u : Nat, u < 4 → v = u → (vb v).toNat = 97 + u := fun u hu h => by rw [h]; exact vb_nat hu
  obtain h | h | h | h : v = 0 ∨ v = 1 ∨ v = 2 ∨ v = 3 := by omega
  all_goals
    have kk := key _ (by omega) h
    rw [kk] at cl
    subst h
    clear key kk
    go_enter Tryd.func200, Tryd.ntmps200
    go_wp2
    go_ret
    exact ⟨rfl, rfl⟩
end
end Go.Proofs.YtpcnoiigbmiejaaDoor.ist

/- decide of the holder: formulas without parts. -/
namespace Go.Proofs.YtpcnoiigbmiejaaDoor.ist
set_option linter.unusedVariables false
set_option linter.unusedSimpArgs false
open Go.ChangeShapes Go.WideShapes Go.ChangeAt Go.RowKit
open Go.Proofs.YtpcnoiigbmiejaaDoor.lib Go.Proofs.YtpcnoiigbmiejaaDoor.st Go.Proofs.YtpcnoiigbmiejaaDoor.flow Go.Proofs.YtpcnoiigbmiejaaDoor.base Go.Proofs.YtpcnoiigbmiejaaDoor.make Go.Proofs.YtpcnoiigbmiejaaDoor.fm Go.Proofs.YtpcnoiigbmiejaaDoor.fmt Go.Proofs.YtpcnoiigbmiejaaDoor.sat Go.Proofs.YtpcnoiigbmiejaaDoor.game Go.Proofs.YtpcnoiigbmiejaaDoor.keys Go.Proofs.YtpcnoiigbmiejaaDoor.mapr Go.Proofs.YtpcnoiigbmiejaaDoor.tab Go.Proofs.YtpcnoiigbmiejaaDoor.hold

section
variable {N : Nat} {s r : ByteArray} {w0 : World} {m0 h0 : Nat}
theorem at_on {W W1 : World} {e : Nat → Nat} {H : Nat} {op : UInt8} {vs ps : List Nat} {fr al : Nat} (hp : Pre W W1 e H op vs ps fr al) {X : World} (hb : Below W1.heap.size W1 X) (i v : Nat) (hi : i < 2) (hvs : vs[i]? = some v) (hv : v < 4) :
    Calls Tryd.prog 200 #[.int .i64 (i : Nat), .pointer (some ⟨W.heap.size + 1, 0, none⟩), .pointer (some ⟨W.heap.size, 0, none⟩)] X fun e' w' => e' = .returned (.int .i64 (e v : Nat)) ∧ Below X.heap.size X w' := by
  obtain ⟨vv, pv, ⟨ao, cap, rfl, hl⟩, -, -, n1, -⟩ := (hp.node.below hb (Nat.le_refl _)).cells
  obtain ⟨hlen, hg⟩ := List.getElem?_eq_some_iff.1 hvs
  obtain ⟨c4, h0, h1, h2, h3⟩ := hp.c
  have hsz := hp.sz
  have mv : ∀ {k o : Nat} {x : Value}, k < W1.heap.size → W1.cell? ⟨k, o, none⟩ = some x → X.cell? ⟨k, o, none⟩ = some x := fun {k o x} hk h => by rw [hb.cell (p := ⟨k, o, none⟩) hk]; exact h
  rcases hl with hl | ⟨b, off, rfl, hc⟩
  · have := congrArg List.length hl
    simp at this
    rw [this] at hlen; simp at hlen
  · have hc0 := hc i (by simpa using hlen)
    rw [List.getElem_map, hg] at hc0
    refine (at_any W.heap.size (W.heap.size + 1) H i b off _ cap v e X hi (by simpa using hlen) hv (mv (by omega) c4) n1 hc0 (mv (by omega) h0) (mv (by omega) h1) (mv (by omega) h2) (mv (by omega) h3)).mono ?_
    rintro e' w' ⟨he, rfl⟩
    exact ⟨he, Below.refl _ _⟩
theorem post_same {A : Gr} {D : Nat → Prop} {W W1 : World} {e : Nat → Nat} {H : Nat} {op : UInt8} {vs ps : List Nat} {fr al : Nat} (hp : Pre W W1 e H op vs ps fr al) (hs : St N s r w0 m0 h0 A W1 D) {X : World} (hb : Below W1.heap.size W1 X) {b b' : Bool} (h : b = b') :
    Post N s r w0 m0 h0 A W D b' (.returned (.bool b)) X :=
  ⟨D, by rw [h], hs.below hb (Nat.le_refl _), Out.of (hp.bel.trans (hb.mono hp.bel.size)) (Nat.le_refl _), fun k hk => .inl hk⟩
theorem hold_c {A : Gr} {D : Nat → Prop} {W1 : World} (hs : St N s r w0 m0 h0 A W1 D) : W1.cell? ⟨h0, 0, none⟩ = some (.int .i64 (N : Int)) ∧ W1.cell? ⟨h0, 1, none⟩ = some (.string s) ∧ W1.cell? ⟨h0, 2, none⟩ = some (.string r) ∧ W1.cell? ⟨h0, 3, none⟩ = some (.map (some m0)) ∧ h0 < W1.heap.size := by
  obtain ⟨_, _, hh, _⟩ := hs
  exact ⟨hh.c.1, hh.c.2.1, hh.c.2.2.1, hh.c.2.2.2, hh.lt⟩
set_option maxHeartbeats 6400000 in
set_option maxRecDepth 100000 in
theorem dec_tf {A : Gr} {op : UInt8} (hk : (Fm.tf op).ok) : DecP N s r w0 m0 h0 A (.tf op) := by
  have hop : op = 116 ∨ op = 102 := by
    have h : sort op = .tf := hk
    revert h
    unfold sort
    repeat' split
    all_goals simp_all
  clear hk
  intro H D W e ht hv hf hst
  obtain ⟨W1, hW1⟩ : ∃ W1, W1 = (W.alloc (.cells #[.pointer (some ⟨H, 0, none⟩)] 80)).alloc (.cells #[.int .i64 (e 0 : Nat), .int .i64 (e 1 : Nat), .int .i64 (e 2 : Nat), .int .i64 (e 3 : Nat)] 131) := ⟨_, rfl⟩
  obtain ⟨hp, hs1⟩ := pre_of hst (show fmt.Node 84 w0 H op [] [] _ _ from ht) hW1
  have HP := Lib.hid hp
  have HS := Lib.hid hs1
  have HW1 := Lib.hid hW1
  have n0 : W1.cell? ⟨H, 0, none⟩ = some (.int .u8 ((op : UInt8).toNat : Int)) := by
    obtain ⟨vv, pv, -, -, n0, -⟩ := hp.node.cells
    exact n0
  have c4 := hp.c.1
  have eP : make.Enters 200 := make.enters_of Tryd.func200 (by kernel_rfl) rfl
  unfold make.Enters at eP
  clear hp hs1 hW1 hst
  unfold vals
  have hb0 : Below W1.heap.size W1 W1 := Below.refl _ _
  rcases hop with rfl | rfl
  · have HR : Hid (Post N s r w0 m0 h0 A W D (sat A (.tf 116) e) (.returned (.bool true)) W1) := post_same HP.out HS.out hb0 (by unfold sat; decide)
    clear hb0 hf hv
    go_enter Tryd.func178, Tryd.ntmps178
    go_upto_region 1 with (fail)
    rw [← HW1.out]
    go_wp2
    go_ret
    exact HR.out
  · have HR : Hid (Post N s r w0 m0 h0 A W D (sat A (.tf 102) e) (.returned (.bool false)) W1) := post_same HP.out HS.out hb0 (by unfold sat; decide)
    clear hb0 hf hv
    go_enter Tryd.func178, Tryd.ntmps178
    go_upto_region 1 with (fail)
    rw [← HW1.out]
    go_wp2
    go_ret
    exact HR.out
set_option maxHeartbeats 6400000 in
set_option maxRecDepth 100000 in
theorem dec_p {v : Nat} (hN : N ≤ 8) (hs : s.size = N) (hk : (Fm.p v).ok) : DecP N s r w0 m0 h0 (gob.gr N s r) (.p v) := by
  intro H D W e ht hv hf hst
  obtain ⟨W1, hW1⟩ : ∃ W1, W1 = (W.alloc (.cells #[.pointer (some ⟨H, 0, none⟩)] 80)).alloc (.cells #[.int .i64 (e 0 : Nat), .int .i64 (e 1 : Nat), .int .i64 (e 2 : Nat), .int .i64 (e 3 : Nat)] 131) := ⟨_, rfl⟩
  obtain ⟨hp, hs1⟩ := pre_of hst (show fmt.Node 84 w0 H 80 [v] [] _ _ from ht) hW1
  have HP := Lib.hid hp
  have HS := Lib.hid hs1
  have HW1 := Lib.hid hW1
  have n0 : W1.cell? ⟨H, 0, none⟩ = some (.int .u8 ((80 : UInt8).toNat : Int)) := by
    obtain ⟨vv, pv, -, -, n0, -⟩ := hp.node.cells
    exact n0
  have c4 := hp.c.1
  have eP : make.Enters 200 := make.enters_of Tryd.func200 (by kernel_rfl) rfl
  unfold make.Enters at eP
  clear hp hs1 hW1 hst
  unfold vals
  have hv4 : v < 4 := hk
  have hen : e v < N := hf v hv4 (by rw [← inS_bit ⟨(Fm.p v).free, Fm.free_lt hk⟩ ⟨v, hv4⟩]; show (1 <<< v).testBit v = true; rw [bit_sh]; simp)
  have IS : Hid (∀ W', Calls Tryd.prog 52 #[.agg #[.int .i64 (N : Int), .string s, .string r], .int .i64 (e v : Nat)] W' fun e' w' => e' = .returned (.bool (bitAt s (e v))) ∧ Below W'.heap.size W' w') := fun W' => inSet_any N s r (e v) W' (by omega) (by omega)
  have C0 : Hid (∀ X : Wd (fun W => Hid (Below W1.heap.size W1 W)), Calls Tryd.prog 200 #[.int .i64 0, .pointer (some ⟨W.heap.size + 1, 0, none⟩), .pointer (some ⟨W.heap.size, 0, none⟩)] X.w fun e' w' => e' = .returned (.int .i64 (e v : Nat)) ∧ Below X.w.heap.size X.w w') := fun X => at_on HP.out X.ok.out 0 v (by decide) rfl (by omega)
  clear hk hf hv ht hen hs hv4
  go_enter Tryd.func178, Tryd.ntmps178
  go_upto_region 1 with (fail)
  rw [← HW1.out]
  go_wp2_with fail
  have hne : Nonempty (Wd (fun W => Hid (Below W1.heap.size W1 W))) := ⟨⟨W1, Lib.hid (Below.refl _ _)⟩⟩
  have a0 : ∀ X : Wd (fun W => Hid (Below W1.heap.size W1 W)), X.w.cell? ⟨h0, 0, none⟩ = some (.int .i64 (N : Int)) := fun X => by rw [X.ok.out.cell (p := ⟨h0, 0, none⟩) (hold_c HS.out).2.2.2.2]; exact (hold_c HS.out).1
  have a1 : ∀ X : Wd (fun W => Hid (Below W1.heap.size W1 W)), X.w.cell? ⟨h0, 1, none⟩ = some (.string s) := fun X => by rw [X.ok.out.cell (p := ⟨h0, 1, none⟩) (hold_c HS.out).2.2.2.2]; exact (hold_c HS.out).2.1
  have a2 : ∀ X : Wd (fun W => Hid (Below W1.heap.size W1 W)), X.w.cell? ⟨h0, 2, none⟩ = some (.string r) := fun X => by rw [X.ok.out.cell (p := ⟨h0, 2, none⟩) (hold_c HS.out).2.2.2.2]; exact (hold_c HS.out).2.2.1
  go_wp2_with fail
  refine flow_last (S := (fun W => Hid (Below W1.heap.size W1 W))) (by kernel_rfl) (by kernel_rfl) (by kernel_rfl) (by kernel_rfl) (by kernel_rfl) (Lib.hid (Below.refl _ _).drew) ?_
  simp only [List.dropLast_cons_cons, List.dropLast_singleton, List.getLast?_cons_cons, List.getLast?_singleton, Option.toList_some]
  repeat (go_big_quiet_step (first
    | ((with_reducible refine (C0.out _).mono ?_); rintro e W ⟨rfl, hb⟩; exact ⟨rfl, Wd.on (Wd.ok _) hb⟩)
    | ((with_reducible refine (IS.out _).mono ?_); rintro e W ⟨rfl, hb⟩; exact ⟨rfl, Wd.on (Wd.ok _) hb⟩)))
  refine wpQuiet_nil ?_
  rintro _ ⟨X, rfl⟩
  have HX := Lib.hid X.ok.out
  clear  hne
  go_wp2
  go_ret
  exact post_same HP.out HS.out HX.out rfl
set_option maxHeartbeats 6400000 in
set_option maxRecDepth 100000 in
theorem dec_r {op : UInt8} {v u : Nat} (hN : N ≤ 8) (hr : r.size = N * N) (hk : (Fm.r op v u).ok) : DecP N s r w0 m0 h0 (gob.gr N s r) (.r op v u) := by
  have hv4 : v < 4 := hk.2.1
  have hu4 : u < 4 := hk.2.2
  have hop : op = 61 ∨ op = 69 := by
    have h : sort op = .r := hk.1
    revert h
    unfold sort
    repeat' split
    all_goals simp_all
  intro H D W e ht hv hf hst
  obtain ⟨W1, hW1⟩ : ∃ W1, W1 = (W.alloc (.cells #[.pointer (some ⟨H, 0, none⟩)] 80)).alloc (.cells #[.int .i64 (e 0 : Nat), .int .i64 (e 1 : Nat), .int .i64 (e 2 : Nat), .int .i64 (e 3 : Nat)] 131) := ⟨_, rfl⟩
  obtain ⟨hp, hs1⟩ := pre_of hst (show fmt.Node 84 w0 H op [v, u] [] _ _ from ht) hW1
  have HP := Lib.hid hp
  have HS := Lib.hid hs1
  have HW1 := Lib.hid hW1
  have n0 : W1.cell? ⟨H, 0, none⟩ = some (.int .u8 ((op : UInt8).toNat : Int)) := by
    obtain ⟨vv, pv, -, -, n0, -⟩ := hp.node.cells
    exact n0
  have c4 := hp.c.1
  have eP : make.Enters 200 := make.enters_of Tryd.func200 (by kernel_rfl) rfl
  unfold make.Enters at eP
  clear hp hs1 hW1 hst
  unfold vals
  have hen : e v < N := hf v hv4 (by rw [← inS_bit ⟨(Fm.r op v u).free, Fm.free_lt hk⟩ ⟨v, hv4⟩]; show (1 <<< v ||| 1 <<< u).testBit v = true; rw [Nat.testBit_or, bit_sh]; simp)
  have hem : e u < N := hf u hu4 (by rw [← inS_bit ⟨(Fm.r op v u).free, Fm.free_lt hk⟩ ⟨u, hu4⟩]; show (1 <<< v ||| 1 <<< u).testBit u = true; rw [Nat.testBit_or, bit_sh, bit_sh]; simp)
  clear hf hv ht hk
  rcases hop with rfl | rfl
  · clear hen hem hr
    go_enter Tryd.func178, Tryd.ntmps178
    go_upto_region 1 with (fail)
    rw [← HW1.out]
    go_wp2_with fail
    refine (at_on HP.out (Below.refl _ _) 0 v (by decide) rfl hv4).mono ?_
    rintro e1 w1 ⟨rfl, hb1⟩
    have HB1 := Lib.hid hb1
    clear hb1
    go_wp2_with fail
    refine (at_on HP.out HB1.out 1 u (by decide) rfl hu4).mono ?_
    rintro e2 w2 ⟨rfl, hb2⟩
    have HB2 := Lib.hid hb2
    clear hb2
    go_wp2
    go_ret
    exact post_same HP.out HS.out (HB1.out.trans (HB2.out.mono HB1.out.size)) (by
      first | rfl | (unfold sat; simp; done) | (unfold sat; rw [Bool.eq_iff_iff]; simp; omega))
  · have IS : Hid (∀ W', Calls Tryd.prog 55 #[.agg #[.int .i64 (N : Int), .string s, .string r], .int .i64 (e v : Nat), .int .i64 (e u : Nat)] W' fun e' w' => e' = .returned (.bool (bitAt r (e v * N + e u))) ∧ Below W'.heap.size W' w') := fun W' => inRel_any N s r (e v) (e u) W' hen hem hN hr
    have C0 : Hid (∀ X : Wd (fun W => Hid (Below W1.heap.size W1 W)), Calls Tryd.prog 200 #[.int .i64 0, .pointer (some ⟨W.heap.size + 1, 0, none⟩), .pointer (some ⟨W.heap.size, 0, none⟩)] X.w fun e' w' => e' = .returned (.int .i64 (e v : Nat)) ∧ Below X.w.heap.size X.w w') := fun X => at_on HP.out X.ok.out 0 v (by decide) rfl (by omega)
    have C1 : Hid (∀ X : Wd (fun W => Hid (Below W1.heap.size W1 W)), Calls Tryd.prog 200 #[.int .i64 1, .pointer (some ⟨W.heap.size + 1, 0, none⟩), .pointer (some ⟨W.heap.size, 0, none⟩)] X.w fun e' w' => e' = .returned (.int .i64 (e u : Nat)) ∧ Below X.w.heap.size X.w w') := fun X => at_on HP.out X.ok.out 1 u (by decide) rfl (by omega)
    clear hen hem hr hv4 hu4
    go_enter Tryd.func178, Tryd.ntmps178
    go_upto_region 1 with (fail)
    rw [← HW1.out]
    go_wp2_with fail
    have hne : Nonempty (Wd (fun W => Hid (Below W1.heap.size W1 W))) := ⟨⟨W1, Lib.hid (Below.refl _ _)⟩⟩
    have a0 : ∀ X : Wd (fun W => Hid (Below W1.heap.size W1 W)), X.w.cell? ⟨h0, 0, none⟩ = some (.int .i64 (N : Int)) := fun X => by rw [X.ok.out.cell (p := ⟨h0, 0, none⟩) (hold_c HS.out).2.2.2.2]; exact (hold_c HS.out).1
    have a1 : ∀ X : Wd (fun W => Hid (Below W1.heap.size W1 W)), X.w.cell? ⟨h0, 1, none⟩ = some (.string s) := fun X => by rw [X.ok.out.cell (p := ⟨h0, 1, none⟩) (hold_c HS.out).2.2.2.2]; exact (hold_c HS.out).2.1
    have a2 : ∀ X : Wd (fun W => Hid (Below W1.heap.size W1 W)), X.w.cell? ⟨h0, 2, none⟩ = some (.string r) := fun X => by rw [X.ok.out.cell (p := ⟨h0, 2, none⟩) (hold_c HS.out).2.2.2.2]; exact (hold_c HS.out).2.2.1
    go_wp2_with fail
    refine flow_last (S := (fun W => Hid (Below W1.heap.size W1 W))) (by kernel_rfl) (by kernel_rfl) (by kernel_rfl) (by kernel_rfl) (by kernel_rfl) (Lib.hid (Below.refl _ _).drew) ?_
    simp only [List.dropLast_cons_cons, List.dropLast_singleton, List.getLast?_cons_cons, List.getLast?_singleton, Option.toList_some]
    repeat (go_big_quiet_step (first
      | ((with_reducible refine (C0.out _).mono ?_); rintro e W ⟨rfl, hb⟩; exact ⟨rfl, Wd.on (Wd.ok _) hb⟩)
      | ((with_reducible refine (C1.out _).mono ?_); rintro e W ⟨rfl, hb⟩; exact ⟨rfl, Wd.on (Wd.ok _) hb⟩)
      | ((with_reducible refine (IS.out _).mono ?_); rintro e W ⟨rfl, hb⟩; exact ⟨rfl, Wd.on (Wd.ok _) hb⟩)))
    refine wpQuiet_nil ?_
    rintro _ ⟨X, rfl⟩
    have HX := Lib.hid X.ok.out
    clear  hne
    go_wp2
    go_ret
    exact post_same HP.out HS.out HX.out rfl
end
end Go.Proofs.YtpcnoiigbmiejaaDoor.ist

/- decide of the holder: negations, two parts. -/
namespace Go.Proofs.YtpcnoiigbmiejaaDoor.ist
set_option linter.unusedVariables false
set_option linter.unusedSimpArgs false
open Go.ChangeShapes Go.WideShapes Go.ChangeAt Go.RowKit
open Go.Proofs.YtpcnoiigbmiejaaDoor.lib Go.Proofs.YtpcnoiigbmiejaaDoor.st Go.Proofs.YtpcnoiigbmiejaaDoor.flow Go.Proofs.YtpcnoiigbmiejaaDoor.chain Go.Proofs.YtpcnoiigbmiejaaDoor.base Go.Proofs.YtpcnoiigbmiejaaDoor.make Go.Proofs.YtpcnoiigbmiejaaDoor.fm Go.Proofs.YtpcnoiigbmiejaaDoor.fmt Go.Proofs.YtpcnoiigbmiejaaDoor.sat Go.Proofs.YtpcnoiigbmiejaaDoor.game Go.Proofs.YtpcnoiigbmiejaaDoor.keys Go.Proofs.YtpcnoiigbmiejaaDoor.mapr Go.Proofs.YtpcnoiigbmiejaaDoor.tab Go.Proofs.YtpcnoiigbmiejaaDoor.hold

section
variable {N : Nat} {s r : ByteArray} {w0 : World} {m0 h0 : Nat}
theorem Out.cell {D : Nat → Prop} {W W' : World} (h : Out D W W') {k o : Nat} {x : Value} (hc : W.cell? ⟨k, o, none⟩ = some x) (hD : ¬ D k) : W'.cell? ⟨k, o, none⟩ = some x := by
  have hlt := World.block_lt_of_cell? W ⟨k, o, none⟩ hc
  have e := h.block k hlt hD
  unfold World.cell? at hc ⊢
  simp only at hc ⊢
  rw [e]; exact hc
/-- what decide reads stays, whatever is found -/
structure Rd (W W1 : World) (e : Nat → Nat) (H : Nat) (D : Nat → Prop) : Prop where
  old : ∀ X, Out D W1 X → ∀ k o x, w0.cell? ⟨k, o, none⟩ = some x → X.cell? ⟨k, o, none⟩ = some x
  g4 : ∀ X, Out D W1 X → X.cell? ⟨W.heap.size, 0, none⟩ = some (.pointer (some ⟨H, 0, none⟩))
  v0 : ∀ X, Out D W1 X → X.cell? ⟨W.heap.size + 1, 0, none⟩ = some (.int .i64 (e 0 : Nat))
  v1 : ∀ X, Out D W1 X → X.cell? ⟨W.heap.size + 1, 1, none⟩ = some (.int .i64 (e 1 : Nat))
  v2 : ∀ X, Out D W1 X → X.cell? ⟨W.heap.size + 1, 2, none⟩ = some (.int .i64 (e 2 : Nat))
  v3 : ∀ X, Out D W1 X → X.cell? ⟨W.heap.size + 1, 3, none⟩ = some (.int .i64 (e 3 : Nat))
theorem rd_of {A : Gr} {D : Nat → Prop} {W W1 : World} {e : Nat → Nat} {H : Nat} {op : UInt8} {vs ps : List Nat} {fr al : Nat} (hst : St N s r w0 m0 h0 A W D) (hp : Pre W W1 e H op vs ps fr al) (hs1 : St N s r w0 m0 h0 A W1 D) : Rd (w0 := w0) W W1 e H D := by
  obtain ⟨_, k0, _⟩ := hst
  obtain ⟨_, k1, _⟩ := hs1
  obtain ⟨c4, c0, c1, c2, c3⟩ := hp.c
  have n4 : ¬ D W.heap.size := fun h => Nat.lt_irrefl _ (k0.lt _ h)
  have n5 : ¬ D (W.heap.size + 1) := fun h => by have := k0.lt _ h; omega
  refine ⟨fun X hX k o x hc => ?_, fun X hX => hX.cell c4 n4, fun X hX => hX.cell c0 n5, fun X hX => hX.cell c1 n5, fun X hX => hX.cell c2 n5, fun X hX => hX.cell c3 n5⟩
  have hlt : k < w0.heap.size := World.block_lt_of_cell? w0 ⟨k, o, none⟩ hc
  have hn : ¬ D k := fun h => by have := k0.lo _ h; omega
  refine hX.cell ?_ hn
  rw [k1.base.cell (p := ⟨k, o, none⟩) hlt]; exact hc
theorem part_c {H : Nat} {op : UInt8} {vs : List Nat} {K : Nat} {ps : List Nat} {fr al : Nat} (hn : fmt.Node 84 w0 H op vs (K :: ps) fr al) :
    ∃ b off cap, w0.cell? ⟨H, 2, none⟩ = some (.slice (some ⟨b, off, none⟩) (ps.length + 1) cap) ∧ w0.cell? ⟨b, off, none⟩ = some (.pointer (some ⟨K, 0, none⟩)) ∧ ∀ L, ps[0]? = some L → w0.cell? ⟨b, off + 1, none⟩ = some (.pointer (some ⟨L, 0, none⟩)) := by
  obtain ⟨vv, pv, -, hpv, -, -, n2, -⟩ := hn.cells
  obtain ⟨b, off, cap, rfl, hc⟩ := rv1 (l := ps.map fun k => .pointer (some ⟨k, 0, none⟩)) (x := .pointer (some ⟨K, 0, none⟩)) hpv
  rw [List.length_map] at n2
  refine ⟨b, off, cap, n2, hc 0 (by omega), fun L hL => ?_⟩
  cases ps with
  | nil => simp at hL
  | cons x ps =>
    simp only [List.getElem?_cons_zero, Option.some.injEq] at hL
    subst hL
    exact hc 1 (by simp)
theorem post_more {A : Gr} {D D2 : Nat → Prop} {W W1 W2 : World} {e : Nat → Nat} {H : Nat} {op : UInt8} {vs ps : List Nat} {fr al : Nat} (hp : Pre W W1 e H op vs ps fr al) (hs2 : St N s r w0 m0 h0 A W2 D2) (ho : Out D W1 W2) (hg : ∀ k, D2 k → D k ∨ W1.heap.size ≤ k) {b b' : Bool} (h : b = b') :
    Post N s r w0 m0 h0 A W D b' (.returned (.bool b)) W2 :=
  ⟨D2, by rw [h], hs2, (Out.of hp.bel (Nat.le_refl _)).trans ho fun k hk => .inl hk, fun k hk => by
    rcases hg k hk with h | h
    · exact .inl h
    · exact .inr (by have := hp.sz; omega)⟩
set_option maxHeartbeats 6400000 in
set_option maxRecDepth 100000 in
theorem dec_no {A : Gr} {a : Fm} (ia : TruP N s r w0 m0 h0 A a) : DecP N s r w0 m0 h0 A (.no a) := by
  intro H D W e ht hv hf hst
  obtain ⟨K0, htk, hnd⟩ := ht
  obtain ⟨b, off, cap, p2, pk, -⟩ := part_c hnd
  obtain ⟨W1, hW1⟩ : ∃ W1, W1 = (W.alloc (.cells #[.pointer (some ⟨H, 0, none⟩)] 80)).alloc (.cells #[.int .i64 (e 0 : Nat), .int .i64 (e 1 : Nat), .int .i64 (e 2 : Nat), .int .i64 (e 3 : Nat)] 131) := ⟨_, rfl⟩
  obtain ⟨hp, hs1⟩ := pre_of hst (show fmt.Node 84 w0 H 33 [] [K0] _ _ from hnd) hW1
  have HR := Lib.hid (rd_of hst hp hs1)
  have HP := Lib.hid hp
  have HS := Lib.hid hs1
  have HW1 := Lib.hid hW1
  have n0 : W1.cell? ⟨H, 0, none⟩ = some (.int .u8 ((33 : UInt8).toNat : Int)) := by
    obtain ⟨vv, pv, -, -, n0, -⟩ := hp.node.cells
    exact n0
  have c4 := hp.c.1
  have HV := Lib.hid hv
  clear hp hs1 hW1 hst hv
  unfold vals
  have HI := Lib.hid ia
  have HF := Lib.hid hf
  have HTK := Lib.hid htk
  clear ia hf htk hnd
  have f4 : ∀ QQ : Wd (fun X => Hid (Out D W1 X)), QQ.w.cell? ⟨W.heap.size, 0, none⟩ = some (.pointer (some ⟨H, 0, none⟩)) := fun QQ => HR.out.g4 _ QQ.ok.out
  have f50 : ∀ QQ : Wd (fun X => Hid (Out D W1 X)), QQ.w.cell? ⟨W.heap.size + 1, 0, none⟩ = some (.int .i64 (e 0 : Nat)) := fun QQ => HR.out.v0 _ QQ.ok.out
  have f51 : ∀ QQ : Wd (fun X => Hid (Out D W1 X)), QQ.w.cell? ⟨W.heap.size + 1, 1, none⟩ = some (.int .i64 (e 1 : Nat)) := fun QQ => HR.out.v1 _ QQ.ok.out
  have f52 : ∀ QQ : Wd (fun X => Hid (Out D W1 X)), QQ.w.cell? ⟨W.heap.size + 1, 2, none⟩ = some (.int .i64 (e 2 : Nat)) := fun QQ => HR.out.v2 _ QQ.ok.out
  have f53 : ∀ QQ : Wd (fun X => Hid (Out D W1 X)), QQ.w.cell? ⟨W.heap.size + 1, 3, none⟩ = some (.int .i64 (e 3 : Nat)) := fun QQ => HR.out.v3 _ QQ.ok.out
  have f2 : ∀ QQ : Wd (fun X => Hid (Out D W1 X)), QQ.w.cell? ⟨H, 2, none⟩ = some (.slice (some ⟨b, off, none⟩) 1 cap) := fun QQ => HR.out.old _ QQ.ok.out _ _ _ p2
  have fk : ∀ QQ : Wd (fun X => Hid (Out D W1 X)), QQ.w.cell? ⟨b, off, none⟩ = some (.pointer (some ⟨K0, 0, none⟩)) := fun QQ => HR.out.old _ QQ.ok.out _ _ _ pk
  have hne : Nonempty (Wd (fun X => Hid (Out D W1 X))) := ⟨⟨W1, Lib.hid (Out.refl _ _)⟩⟩
  go_enter Tryd.func178, Tryd.ntmps178
  go_upto_region 1 with (fail)
  rw [← HW1.out]
  go_wp2_with fail
  refine chain_last (S := (fun X => Hid (Out D W1 X))) [([true, true, true, true, true, true, true, true], 8)] [false, false, false, false, false, false, false, false, false, true] (by kernel_rfl) (by kernel_rfl) (by kernel_rfl) (by kernel_rfl) (by kernel_rfl) (by kernel_rfl) (Lib.hid (Out.of (Below.refl W1.heap.size W1).drew (Nat.le_refl _))) ?_
  simp only [wpSegs, pickB, List.dropLast_cons_cons, List.dropLast_singleton, List.getLast?_cons_cons, List.getLast?_singleton, List.toList_toArray, List.getElem?_toArray, List.getElem?_cons_succ, List.getElem?_cons_zero, Option.toList_some]
  repeat (go_big_quiet_step (fail))
  refine wpQuiet_nil ?_
  intro K hK
  go_wp2_with fail
  refine (HI.out K0 D _ e HTK.out HV.out HF.out (HS.out.below (Below.refl _ _).drew (Nat.le_refl _))).mono ?_
  rintro e1 W2 ⟨D2, rfl, hs2, ho2, hg2⟩
  have HS2 := Lib.hid hs2
  have HO2 : Hid (Out D W1 W2) := (Out.of (Below.refl W1.heap.size W1).drew (Nat.le_refl _)).trans ho2 fun k hk => .inl hk
  have HG2 : Hid (∀ k, D2 k → D k ∨ W1.heap.size ≤ k) := hg2
  clear hs2 ho2 hg2
  go_wp2_with fail
  refine hK _ _ HO2 ?_
  clear hK K
  repeat (go_big_quiet_step (fail))
  refine wpQuiet_nil ?_
  show wpList _ _ _ _ _ _
  clear f4 f50 f51 f52 f53 f2 fk hne
  go_wp2
  go_ret
  exact post_more HP.out HS2.out HO2.out HG2.out rfl
set_option maxHeartbeats 6400000 in
set_option maxRecDepth 100000 in
theorem dec_and {A : Gr} {a c : Fm} (ia : TruP N s r w0 m0 h0 A a) (ic : TruP N s r w0 m0 h0 A c) (hk : (Fm.two 38 a c).ok) : DecP N s r w0 m0 h0 A (.two 38 a c) := by
  intro H D W e ht hv hf hst
  obtain ⟨K0, L0, htk, htl, hnd⟩ := ht
  obtain ⟨b, off, cap, p2, pk, pl0⟩ := part_c hnd
  have pl := pl0 L0 rfl
  have hfr : (Fm.two 38 a c).free = a.free ||| c.free := rfl
  have hfa : ∀ u, u < 4 → inS a.free u = true → e u < A.n := fun u hu h => hf u hu (by
    rw [← inS_bit ⟨(Fm.two 38 a c).free, Fm.free_lt hk⟩ ⟨u, hu⟩]
    rw [← inS_bit ⟨a.free, Fm.free_lt hk.2.1⟩ ⟨u, hu⟩] at h
    show (a.free ||| c.free).testBit u = true
    rw [Nat.testBit_or, h]; rfl)
  have hfc : ∀ u, u < 4 → inS c.free u = true → e u < A.n := fun u hu h => hf u hu (by
    rw [← inS_bit ⟨(Fm.two 38 a c).free, Fm.free_lt hk⟩ ⟨u, hu⟩]
    rw [← inS_bit ⟨c.free, Fm.free_lt hk.2.2⟩ ⟨u, hu⟩] at h
    show (a.free ||| c.free).testBit u = true
    rw [Nat.testBit_or, h, Bool.or_true])
  clear pl0 hfr
  obtain ⟨W1, hW1⟩ : ∃ W1, W1 = (W.alloc (.cells #[.pointer (some ⟨H, 0, none⟩)] 80)).alloc (.cells #[.int .i64 (e 0 : Nat), .int .i64 (e 1 : Nat), .int .i64 (e 2 : Nat), .int .i64 (e 3 : Nat)] 131) := ⟨_, rfl⟩
  obtain ⟨hp, hs1⟩ := pre_of hst (show fmt.Node 84 w0 H 38 [] [K0, L0] _ _ from hnd) hW1
  have HR := Lib.hid (rd_of hst hp hs1)
  have HP := Lib.hid hp
  have HS := Lib.hid hs1
  have HW1 := Lib.hid hW1
  have n0 : W1.cell? ⟨H, 0, none⟩ = some (.int .u8 ((38 : UInt8).toNat : Int)) := by
    obtain ⟨vv, pv, -, -, n0, -⟩ := hp.node.cells
    exact n0
  have c4 := hp.c.1
  have HV := Lib.hid hv
  clear hp hs1 hW1 hst hv
  unfold vals
  have HIA := Lib.hid ia
  have HIC := Lib.hid ic
  have HFA := Lib.hid hfa
  have HFC := Lib.hid hfc
  have HTK := Lib.hid htk
  have HTL := Lib.hid htl
  clear ia ic hf hfa hfc htk htl hnd hk
  have f4 : ∀ QQ : Wd (fun X => Hid (Out D W1 X)), QQ.w.cell? ⟨W.heap.size, 0, none⟩ = some (.pointer (some ⟨H, 0, none⟩)) := fun QQ => HR.out.g4 _ QQ.ok.out
  have f50 : ∀ QQ : Wd (fun X => Hid (Out D W1 X)), QQ.w.cell? ⟨W.heap.size + 1, 0, none⟩ = some (.int .i64 (e 0 : Nat)) := fun QQ => HR.out.v0 _ QQ.ok.out
  have f51 : ∀ QQ : Wd (fun X => Hid (Out D W1 X)), QQ.w.cell? ⟨W.heap.size + 1, 1, none⟩ = some (.int .i64 (e 1 : Nat)) := fun QQ => HR.out.v1 _ QQ.ok.out
  have f52 : ∀ QQ : Wd (fun X => Hid (Out D W1 X)), QQ.w.cell? ⟨W.heap.size + 1, 2, none⟩ = some (.int .i64 (e 2 : Nat)) := fun QQ => HR.out.v2 _ QQ.ok.out
  have f53 : ∀ QQ : Wd (fun X => Hid (Out D W1 X)), QQ.w.cell? ⟨W.heap.size + 1, 3, none⟩ = some (.int .i64 (e 3 : Nat)) := fun QQ => HR.out.v3 _ QQ.ok.out
  have f2 : ∀ QQ : Wd (fun X => Hid (Out D W1 X)), QQ.w.cell? ⟨H, 2, none⟩ = some (.slice (some ⟨b, off, none⟩) 2 cap) := fun QQ => HR.out.old _ QQ.ok.out _ _ _ p2
  have fk : ∀ QQ : Wd (fun X => Hid (Out D W1 X)), QQ.w.cell? ⟨b, off, none⟩ = some (.pointer (some ⟨K0, 0, none⟩)) := fun QQ => HR.out.old _ QQ.ok.out _ _ _ pk
  have fl : ∀ QQ : Wd (fun X => Hid (Out D W1 X)), QQ.w.cell? ⟨b, off + 1, none⟩ = some (.pointer (some ⟨L0, 0, none⟩)) := fun QQ => HR.out.old _ QQ.ok.out _ _ _ pl
  have hne : Nonempty (Wd (fun X => Hid (Out D W1 X))) := ⟨⟨W1, Lib.hid (Out.refl _ _)⟩⟩
  cases hb : sat A a e with
  | false =>
    have HB := Lib.hid hb
    clear hb
    go_enter Tryd.func178, Tryd.ntmps178
    go_upto_region 1 with (fail)
    rw [← HW1.out]
    go_wp2_with fail
    refine chain_last (S := (fun X => Hid (Out D W1 X))) [([true, true, true, true, true, true, true, true], 8), ([false, false, false, false, false, false, false, false, false, true, true, true, true, true, true, true, true, true], 18)] [false, false, false, false, false, false, false, false, false, false, false, false, false, false, false, false, false, false, false, true] (by kernel_rfl) (by kernel_rfl) (by kernel_rfl) (by kernel_rfl) (by kernel_rfl) (by kernel_rfl) (Lib.hid (Out.of (Below.refl W1.heap.size W1).drew (Nat.le_refl _))) ?_
    simp only [wpSegs, pickB, List.dropLast_cons_cons, List.dropLast_singleton, List.getLast?_cons_cons, List.getLast?_singleton, List.toList_toArray, List.getElem?_toArray, List.getElem?_cons_succ, List.getElem?_cons_zero, Option.toList_some]
    repeat (go_big_quiet_step (fail))
    refine wpQuiet_nil ?_
    intro K hK
    go_wp2_with fail
    refine (HIA.out K0 D _ e HTK.out HV.out HFA.out (HS.out.below (Below.refl _ _).drew (Nat.le_refl _))).mono ?_
    rintro e1 W2 ⟨D2, he1, hs2, ho2, hg2⟩
    rw [HB.out] at he1
    subst he1
    have HS2 := Lib.hid hs2
    have HO2 : Hid (Out D W1 W2) := (Out.of (Below.refl W1.heap.size W1).drew (Nat.le_refl _)).trans ho2 fun k hk => .inl hk
    have HG2 : Hid (∀ k, D2 k → D k ∨ W1.heap.size ≤ k) := hg2
    clear hs2 ho2 hg2
    go_wp2_with fail
    refine hK _ _ HO2 ?_
    clear hK K
    repeat (go_big_quiet_step (fail))
    refine wpQuiet_nil ?_
    intro K hK
    go_wp2_with fail
    refine hK _ _ HO2 ?_
    clear hK K
    repeat (go_big_quiet_step (fail))
    refine wpQuiet_nil ?_
    show wpList _ _ _ _ _ _
    clear f4 f50 f51 f52 f53 f2 fk fl hne
    go_wp2
    go_ret
    exact post_more HP.out HS2.out HO2.out HG2.out (by show _ = (sat A a e && sat A c e); rw [HB.out]; rfl)
  | true =>
    have HB := Lib.hid hb
    clear hb
    go_enter Tryd.func178, Tryd.ntmps178
    go_upto_region 1 with (fail)
    rw [← HW1.out]
    go_wp2_with fail
    refine chain_last (S := (fun X => Hid (Out D W1 X))) [([true, true, true, true, true, true, true, true], 8), ([false, false, false, false, false, false, false, false, false, true, true, true, true, true, true, true, true, true], 18)] [false, false, false, false, false, false, false, false, false, false, false, false, false, false, false, false, false, false, false, true] (by kernel_rfl) (by kernel_rfl) (by kernel_rfl) (by kernel_rfl) (by kernel_rfl) (by kernel_rfl) (Lib.hid (Out.of (Below.refl W1.heap.size W1).drew (Nat.le_refl _))) ?_
    simp only [wpSegs, pickB, List.dropLast_cons_cons, List.dropLast_singleton, List.getLast?_cons_cons, List.getLast?_singleton, List.toList_toArray, List.getElem?_toArray, List.getElem?_cons_succ, List.getElem?_cons_zero, Option.toList_some]
    repeat (go_big_quiet_step (fail))
    refine wpQuiet_nil ?_
    intro K hK
    go_wp2_with fail
    refine (HIA.out K0 D _ e HTK.out HV.out HFA.out (HS.out.below (Below.refl _ _).drew (Nat.le_refl _))).mono ?_
    rintro e1 W2 ⟨D2, he1, hs2, ho2, hg2⟩
    rw [HB.out] at he1
    subst he1
    have HS2 := Lib.hid hs2
    have HO2 : Hid (Out D W1 W2) := (Out.of (Below.refl W1.heap.size W1).drew (Nat.le_refl _)).trans ho2 fun k hk => .inl hk
    have HG2 : Hid (∀ k, D2 k → D k ∨ W1.heap.size ≤ k) := hg2
    clear hs2 ho2 hg2
    go_wp2_with fail
    refine hK _ _ HO2 ?_
    clear hK K
    repeat (go_big_quiet_step (fail))
    refine wpQuiet_nil ?_
    intro K hK
    go_wp2_with fail
    refine (HIC.out L0 D2 W2 e HTL.out HV.out HFC.out HS2.out).mono ?_
    rintro e2 W3 ⟨D3, rfl, hs3, ho3, hg3⟩
    have HS3 := Lib.hid hs3
    have HO3 : Hid (Out D W1 W3) := HO2.out.trans ho3 HG2.out
    have HG3 : Hid (∀ k, D3 k → D k ∨ W1.heap.size ≤ k) := fun k hk => by
      rcases hg3 k hk with h | h
      · exact HG2.out k h
      · exact .inr (Nat.le_trans HO2.out.size h)
    clear hs3 ho3 hg3
    go_wp2_with fail
    refine hK _ _ HO3 ?_
    clear hK K
    repeat (go_big_quiet_step (fail))
    refine wpQuiet_nil ?_
    show wpList _ _ _ _ _ _
    clear f4 f50 f51 f52 f53 f2 fk fl hne
    go_wp2
    go_ret
    exact post_more HP.out HS3.out HO3.out HG3.out (by show _ = (sat A a e && sat A c e); rw [HB.out]; rfl)
set_option maxHeartbeats 6400000 in
set_option maxRecDepth 100000 in
theorem dec_or {A : Gr} {a c : Fm} (ia : TruP N s r w0 m0 h0 A a) (ic : TruP N s r w0 m0 h0 A c) (hk : (Fm.two 124 a c).ok) : DecP N s r w0 m0 h0 A (.two 124 a c) := by
  intro H D W e ht hv hf hst
  obtain ⟨K0, L0, htk, htl, hnd⟩ := ht
  obtain ⟨b, off, cap, p2, pk, pl0⟩ := part_c hnd
  have pl := pl0 L0 rfl
  have hfr : (Fm.two 124 a c).free = a.free ||| c.free := rfl
  have hfa : ∀ u, u < 4 → inS a.free u = true → e u < A.n := fun u hu h => hf u hu (by
    rw [← inS_bit ⟨(Fm.two 124 a c).free, Fm.free_lt hk⟩ ⟨u, hu⟩]
    rw [← inS_bit ⟨a.free, Fm.free_lt hk.2.1⟩ ⟨u, hu⟩] at h
    show (a.free ||| c.free).testBit u = true
    rw [Nat.testBit_or, h]; rfl)
  have hfc : ∀ u, u < 4 → inS c.free u = true → e u < A.n := fun u hu h => hf u hu (by
    rw [← inS_bit ⟨(Fm.two 124 a c).free, Fm.free_lt hk⟩ ⟨u, hu⟩]
    rw [← inS_bit ⟨c.free, Fm.free_lt hk.2.2⟩ ⟨u, hu⟩] at h
    show (a.free ||| c.free).testBit u = true
    rw [Nat.testBit_or, h, Bool.or_true])
  clear pl0 hfr
  obtain ⟨W1, hW1⟩ : ∃ W1, W1 = (W.alloc (.cells #[.pointer (some ⟨H, 0, none⟩)] 80)).alloc (.cells #[.int .i64 (e 0 : Nat), .int .i64 (e 1 : Nat), .int .i64 (e 2 : Nat), .int .i64 (e 3 : Nat)] 131) := ⟨_, rfl⟩
  obtain ⟨hp, hs1⟩ := pre_of hst (show fmt.Node 84 w0 H 124 [] [K0, L0] _ _ from hnd) hW1
  have HR := Lib.hid (rd_of hst hp hs1)
  have HP := Lib.hid hp
  have HS := Lib.hid hs1
  have HW1 := Lib.hid hW1
  have n0 : W1.cell? ⟨H, 0, none⟩ = some (.int .u8 ((124 : UInt8).toNat : Int)) := by
    obtain ⟨vv, pv, -, -, n0, -⟩ := hp.node.cells
    exact n0
  have c4 := hp.c.1
  have HV := Lib.hid hv
  clear hp hs1 hW1 hst hv
  unfold vals
  have HIA := Lib.hid ia
  have HIC := Lib.hid ic
  have HFA := Lib.hid hfa
  have HFC := Lib.hid hfc
  have HTK := Lib.hid htk
  have HTL := Lib.hid htl
  clear ia ic hf hfa hfc htk htl hnd hk
  have f4 : ∀ QQ : Wd (fun X => Hid (Out D W1 X)), QQ.w.cell? ⟨W.heap.size, 0, none⟩ = some (.pointer (some ⟨H, 0, none⟩)) := fun QQ => HR.out.g4 _ QQ.ok.out
  have f50 : ∀ QQ : Wd (fun X => Hid (Out D W1 X)), QQ.w.cell? ⟨W.heap.size + 1, 0, none⟩ = some (.int .i64 (e 0 : Nat)) := fun QQ => HR.out.v0 _ QQ.ok.out
  have f51 : ∀ QQ : Wd (fun X => Hid (Out D W1 X)), QQ.w.cell? ⟨W.heap.size + 1, 1, none⟩ = some (.int .i64 (e 1 : Nat)) := fun QQ => HR.out.v1 _ QQ.ok.out
  have f52 : ∀ QQ : Wd (fun X => Hid (Out D W1 X)), QQ.w.cell? ⟨W.heap.size + 1, 2, none⟩ = some (.int .i64 (e 2 : Nat)) := fun QQ => HR.out.v2 _ QQ.ok.out
  have f53 : ∀ QQ : Wd (fun X => Hid (Out D W1 X)), QQ.w.cell? ⟨W.heap.size + 1, 3, none⟩ = some (.int .i64 (e 3 : Nat)) := fun QQ => HR.out.v3 _ QQ.ok.out
  have f2 : ∀ QQ : Wd (fun X => Hid (Out D W1 X)), QQ.w.cell? ⟨H, 2, none⟩ = some (.slice (some ⟨b, off, none⟩) 2 cap) := fun QQ => HR.out.old _ QQ.ok.out _ _ _ p2
  have fk : ∀ QQ : Wd (fun X => Hid (Out D W1 X)), QQ.w.cell? ⟨b, off, none⟩ = some (.pointer (some ⟨K0, 0, none⟩)) := fun QQ => HR.out.old _ QQ.ok.out _ _ _ pk
  have fl : ∀ QQ : Wd (fun X => Hid (Out D W1 X)), QQ.w.cell? ⟨b, off + 1, none⟩ = some (.pointer (some ⟨L0, 0, none⟩)) := fun QQ => HR.out.old _ QQ.ok.out _ _ _ pl
  have hne : Nonempty (Wd (fun X => Hid (Out D W1 X))) := ⟨⟨W1, Lib.hid (Out.refl _ _)⟩⟩
  cases hb : sat A a e with
  | false =>
    have HB := Lib.hid hb
    clear hb
    go_enter Tryd.func178, Tryd.ntmps178
    go_upto_region 1 with (fail)
    rw [← HW1.out]
    go_wp2_with fail
    refine chain_last (S := (fun X => Hid (Out D W1 X))) [([true, true, true, true, true, true, true, true], 8), ([false, false, false, false, false, false, false, false, false, true, true, true, true, true, true, true, true, true], 18)] [false, false, false, false, false, false, false, false, false, false, false, false, false, false, false, false, false, false, false, true] (by kernel_rfl) (by kernel_rfl) (by kernel_rfl) (by kernel_rfl) (by kernel_rfl) (by kernel_rfl) (Lib.hid (Out.of (Below.refl W1.heap.size W1).drew (Nat.le_refl _))) ?_
    simp only [wpSegs, pickB, List.dropLast_cons_cons, List.dropLast_singleton, List.getLast?_cons_cons, List.getLast?_singleton, List.toList_toArray, List.getElem?_toArray, List.getElem?_cons_succ, List.getElem?_cons_zero, Option.toList_some]
    repeat (go_big_quiet_step (fail))
    refine wpQuiet_nil ?_
    intro K hK
    go_wp2_with fail
    refine (HIA.out K0 D _ e HTK.out HV.out HFA.out (HS.out.below (Below.refl _ _).drew (Nat.le_refl _))).mono ?_
    rintro e1 W2 ⟨D2, he1, hs2, ho2, hg2⟩
    rw [HB.out] at he1
    subst he1
    have HS2 := Lib.hid hs2
    have HO2 : Hid (Out D W1 W2) := (Out.of (Below.refl W1.heap.size W1).drew (Nat.le_refl _)).trans ho2 fun k hk => .inl hk
    have HG2 : Hid (∀ k, D2 k → D k ∨ W1.heap.size ≤ k) := hg2
    clear hs2 ho2 hg2
    go_wp2_with fail
    refine hK _ _ HO2 ?_
    clear hK K
    repeat (go_big_quiet_step (fail))
    refine wpQuiet_nil ?_
    intro K hK
    go_wp2_with fail
    refine (HIC.out L0 D2 W2 e HTL.out HV.out HFC.out HS2.out).mono ?_
    rintro e2 W3 ⟨D3, rfl, hs3, ho3, hg3⟩
    have HS3 := Lib.hid hs3
    have HO3 : Hid (Out D W1 W3) := HO2.out.trans ho3 HG2.out
    have HG3 : Hid (∀ k, D3 k → D k ∨ W1.heap.size ≤ k) := fun k hk => by
      rcases hg3 k hk with h | h
      · exact HG2.out k h
      · exact .inr (Nat.le_trans HO2.out.size h)
    clear hs3 ho3 hg3
    go_wp2_with fail
    refine hK _ _ HO3 ?_
    clear hK K
    repeat (go_big_quiet_step (fail))
    refine wpQuiet_nil ?_
    show wpList _ _ _ _ _ _
    clear f4 f50 f51 f52 f53 f2 fk fl hne
    go_wp2
    go_ret
    exact post_more HP.out HS3.out HO3.out HG3.out (by show _ = (sat A a e || sat A c e); rw [HB.out]; rfl)
  | true =>
    have HB := Lib.hid hb
    clear hb
    go_enter Tryd.func178, Tryd.ntmps178
    go_upto_region 1 with (fail)
    rw [← HW1.out]
    go_wp2_with fail
    refine chain_last (S := (fun X => Hid (Out D W1 X))) [([true, true, true, true, true, true, true, true], 8), ([false, false, false, false, false, false, false, false, false, true, true, true, true, true, true, true, true, true], 18)] [false, false, false, false, false, false, false, false, false, false, false, false, false, false, false, false, false, false, false, true] (by kernel_rfl) (by kernel_rfl) (by kernel_rfl) (by kernel_rfl) (by kernel_rfl) (by kernel_rfl) (Lib.hid (Out.of (Below.refl W1.heap.size W1).drew (Nat.le_refl _))) ?_
    simp only [wpSegs, pickB, List.dropLast_cons_cons, List.dropLast_singleton, List.getLast?_cons_cons, List.getLast?_singleton, List.toList_toArray, List.getElem?_toArray, List.getElem?_cons_succ, List.getElem?_cons_zero, Option.toList_some]
    repeat (go_big_quiet_step (fail))
    refine wpQuiet_nil ?_
    intro K hK
    go_wp2_with fail
    refine (HIA.out K0 D _ e HTK.out HV.out HFA.out (HS.out.below (Below.refl _ _).drew (Nat.le_refl _))).mono ?_
    rintro e1 W2 ⟨D2, he1, hs2, ho2, hg2⟩
    rw [HB.out] at he1
    subst he1
    have HS2 := Lib.hid hs2
    have HO2 : Hid (Out D W1 W2) := (Out.of (Below.refl W1.heap.size W1).drew (Nat.le_refl _)).trans ho2 fun k hk => .inl hk
    have HG2 : Hid (∀ k, D2 k → D k ∨ W1.heap.size ≤ k) := hg2
    clear hs2 ho2 hg2
    go_wp2_with fail
    refine hK _ _ HO2 ?_
    clear hK K
    repeat (go_big_quiet_step (fail))
    refine wpQuiet_nil ?_
    intro K hK
    go_wp2_with fail
    refine hK _ _ HO2 ?_
    clear hK K
    repeat (go_big_quiet_step (fail))
    refine wpQuiet_nil ?_
    show wpList _ _ _ _ _ _
    clear f4 f50 f51 f52 f53 f2 fk fl hne
    go_wp2
    go_ret
    exact post_more HP.out HS2.out HO2.out HG2.out (by show _ = (sat A a e || sat A c e); rw [HB.out]; rfl)
end
end Go.Proofs.YtpcnoiigbmiejaaDoor.ist

/- decide of the holder: quantifiers. -/
namespace Go.Proofs.YtpcnoiigbmiejaaDoor.ist
set_option linter.unusedVariables false
set_option linter.unusedSimpArgs false
open Go.ChangeShapes Go.WideShapes Go.ChangeAt Go.RowKit
open Go.Proofs.YtpcnoiigbmiejaaDoor.lib Go.Proofs.YtpcnoiigbmiejaaDoor.st Go.Proofs.YtpcnoiigbmiejaaDoor.flow Go.Proofs.YtpcnoiigbmiejaaDoor.chain Go.Proofs.YtpcnoiigbmiejaaDoor.base Go.Proofs.YtpcnoiigbmiejaaDoor.make Go.Proofs.YtpcnoiigbmiejaaDoor.fm Go.Proofs.YtpcnoiigbmiejaaDoor.fmt Go.Proofs.YtpcnoiigbmiejaaDoor.sat Go.Proofs.YtpcnoiigbmiejaaDoor.game Go.Proofs.YtpcnoiigbmiejaaDoor.keys Go.Proofs.YtpcnoiigbmiejaaDoor.mapr Go.Proofs.YtpcnoiigbmiejaaDoor.tab Go.Proofs.YtpcnoiigbmiejaaDoor.hold

theorem grown_set (w : World) (R o : Nat) (v : Value) : w.grownBy (w.setCell ⟨R, o, none⟩ v) (some R) :=
  ⟨rfl, rfl, rfl, by simp, fun k hk hne => heap_setCell_other _ _ _ _ (fun e => hne (by rw [e]))⟩
def arr4 (e : Nat → Nat) : Array Value := #[.int .i64 (e 0 : Nat), .int .i64 (e 1 : Nat), .int .i64 (e 2 : Nat), .int .i64 (e 3 : Nat)]
section
variable {N : Nat} {s r : ByteArray} {w0 : World} {m0 h0 : Nat}
theorem letter_c {H : Nat} {op : UInt8} {v : Nat} {ps : List Nat} {fr al : Nat} (hn : fmt.Node 84 w0 H op [v] ps fr al) :
    ∃ b off cap, w0.cell? ⟨H, 1, none⟩ = some (.slice (some ⟨b, off, none⟩) 1 cap) ∧ w0.cell? ⟨b, off, none⟩ = some (.int .u8 (vb v).toNat) := by
  obtain ⟨vv, pv, hvv, -, -, n1, -⟩ := hn.cells
  obtain ⟨b, off, cap, rfl, hc⟩ := rv1 (l := []) (x := .int .u8 (vb v).toNat) hvv
  exact ⟨b, off, cap, n1, hc 0 (by decide)⟩
/-- under way in a quantifier's loop -/
structure Lp (N : Nat) (s r : ByteArray) (w0 : World) (m0 h0 : Nat) (A : Gr) (D : Nat → Prop) (W : World) (e : Nat → Nat) (v H : Nat) (X : World) (Dk : Nat → Prop) : Prop where
  st : St N s r w0 m0 h0 A X Dk
  hh : h0 < W.heap.size
  w0le : w0.heap.size ≤ W.heap.size
  dlt : ∀ j, D j → j < W.heap.size
  out : Out D W X
  dk : ∀ j, Dk j → D j ∨ W.heap.size + 2 ≤ j
  sz : W.heap.size + 2 ≤ X.heap.size
  b4 : X.heap[W.heap.size]? = some (.cells #[.pointer (some ⟨H, 0, none⟩)] 80 (0, 0))
  b5 : ∃ e', (∀ u, u ≠ v → e' u = e u) ∧ X.heap[W.heap.size + 1]? = some (.cells (arr4 e') 131 (0, 0))
section
variable {A : Gr} {D Dk : Nat → Prop} {W X : World} {e : Nat → Nat} {v H : Nat} (h : Lp N s r w0 m0 h0 A D W e v H X Dk)
include h
theorem Lp.n4 : ¬ Dk W.heap.size := fun hd => by
  rcases h.dk _ hd with hd | hd
  · exact Nat.lt_irrefl _ (h.dlt _ hd)
  · omega
theorem Lp.n5 : ¬ Dk (W.heap.size + 1) := fun hd => by
  rcases h.dk _ hd with hd | hd
  · have := h.dlt _ hd; omega
  · omega
theorem Lp.old {k o : Nat} {x : Value} (hc : w0.cell? ⟨k, o, none⟩ = some x) : X.cell? ⟨k, o, none⟩ = some x := by
  obtain ⟨_, kn, _⟩ := h.st
  have hlt := World.block_lt_of_cell? w0 ⟨k, o, none⟩ hc
  rw [kn.base.cell (p := ⟨k, o, none⟩) hlt]; exact hc
theorem Lp.c4 : X.cell? ⟨W.heap.size, 0, none⟩ = some (.pointer (some ⟨H, 0, none⟩)) := by simp [World.cell?, h.b4]
theorem Lp.fz (j : Nat) : X.frozen? ⟨W.heap.size + 1, j, none⟩ = false := by
  obtain ⟨_, _, hb⟩ := h.b5
  exact frozen_of_row X _ j _ _ hb
/-- the next value is written -/
theorem Lp.set (hv : v < 4) (k : Nat) : Lp N s r w0 m0 h0 A D W e v H (X.setCell ⟨W.heap.size + 1, v, none⟩ (.int .i64 (k : Nat))) Dk ∧
    (X.setCell ⟨W.heap.size + 1, v, none⟩ (.int .i64 (k : Nat))).heap[W.heap.size + 1]? = some (.cells (arr4 (sat.put e v k)) 131 (0, 0)) := by
  have hg := grown_set X (W.heap.size + 1) v (.int .i64 (k : Nat))
  obtain ⟨e', he', hb⟩ := h.b5
  have hb2 : (X.setCell ⟨W.heap.size + 1, v, none⟩ (.int .i64 (k : Nat))).heap[W.heap.size + 1]? = some (.cells (arr4 (sat.put e v k)) 131 (0, 0)) := by
    rw [heap_setCell_same X _ v _ _ (.int .i64 (k : Nat)) hb]
    have hp : ∀ u, u ≠ v → sat.put e v k u = e' u := fun u hu => by rw [put_else hu, he' u hu]
    have hq : sat.put e v k v = k := put_same e v k
    obtain rfl | rfl | rfl | rfl : v = 0 ∨ v = 1 ∨ v = 2 ∨ v = 3 := by omega
    · unfold arr4; rw [hq, hp 1 (by decide), hp 2 (by decide), hp 3 (by decide)]; rfl
    · unfold arr4; rw [hq, hp 0 (by decide), hp 2 (by decide), hp 3 (by decide)]; rfl
    · unfold arr4; rw [hq, hp 0 (by decide), hp 1 (by decide), hp 3 (by decide)]; rfl
    · unfold arr4; rw [hq, hp 0 (by decide), hp 1 (by decide), hp 2 (by decide)]; rfl
  obtain ⟨Mo, kn, hh, hnd⟩ := h.st
  have hw0 : w0.heap.size ≤ W.heap.size + 1 := by have := h.w0le; omega
  refine ⟨⟨⟨Mo, kn.grown hg h.n5 hw0, (hg.block h0 hh.lt fun e => by have e := Option.some.inj e; have := h.hh; omega).trans hh, hnd⟩, h.hh, h.w0le, h.dlt, ?_, h.dk, ?_, ?_, ⟨_, fun u hu => put_else hu, hb2⟩⟩, hb2⟩
  · refine h.out.trans (Out.grown (D := fun j => D j ∨ j = W.heap.size + 1) hg (.inl (.inr rfl))) fun j hj => ?_
    rcases hj with h | h
    · exact .inl h
    · exact .inr (by omega)
  · have := h.sz; have := hg.size; omega
  · exact (hg.block _ (by have := h.sz; omega) fun e => by have e := Option.some.inj e; omega).trans h.b4
/-- more was found -/
theorem Lp.more {X3 : World} {D3 : Nat → Prop} (hs3 : St N s r w0 m0 h0 A X3 D3) (ho : Out Dk X X3) (hg : ∀ j, D3 j → Dk j ∨ X.heap.size ≤ j) : Lp N s r w0 m0 h0 A D W e v H X3 D3 := by
  have hz := h.sz
  refine ⟨hs3, h.hh, h.w0le, h.dlt, h.out.trans ho fun j hj => ?_, fun j hj => ?_, Nat.le_trans hz ho.size, (ho.block _ (by omega) h.n4).trans h.b4, ?_⟩
  · rcases h.dk j hj with h | h
    · exact .inl h
    · exact .inr (by omega)
  · rcases hg j hj with h1 | h1
    · exact h.dk j h1
    · exact .inr (by omega)
  · obtain ⟨e', he', hb⟩ := h.b5
    exact ⟨e', he', (ho.block _ (by omega) h.n5).trans hb⟩
end
end
end Go.Proofs.YtpcnoiigbmiejaaDoor.ist

/- decide of the holder: quantifiers, the walk. -/
namespace Go.Proofs.YtpcnoiigbmiejaaDoor.ist
set_option linter.unusedVariables false
set_option linter.unusedSimpArgs false
open Go.ChangeShapes Go.WideShapes Go.ChangeAt Go.RowKit
open Go.Proofs.YtpcnoiigbmiejaaDoor.lib Go.Proofs.YtpcnoiigbmiejaaDoor.st Go.Proofs.YtpcnoiigbmiejaaDoor.flow Go.Proofs.YtpcnoiigbmiejaaDoor.chain Go.Proofs.YtpcnoiigbmiejaaDoor.base Go.Proofs.YtpcnoiigbmiejaaDoor.make Go.Proofs.YtpcnoiigbmiejaaDoor.fm Go.Proofs.YtpcnoiigbmiejaaDoor.fmt Go.Proofs.YtpcnoiigbmiejaaDoor.sat Go.Proofs.YtpcnoiigbmiejaaDoor.game Go.Proofs.YtpcnoiigbmiejaaDoor.keys Go.Proofs.YtpcnoiigbmiejaaDoor.mapr Go.Proofs.YtpcnoiigbmiejaaDoor.tab Go.Proofs.YtpcnoiigbmiejaaDoor.hold

section
variable {N : Nat} {s r : ByteArray} {w0 : World} {m0 h0 : Nat}
theorem lp_start {A : Gr} {D : Nat → Prop} {W W1 : World} {e : Nat → Nat} {v H : Nat} {op : UInt8} {vs ps : List Nat} {fr al : Nat} (hst : St N s r w0 m0 h0 A W D) (hp : Pre W W1 e H op vs ps fr al) (hs1 : St N s r w0 m0 h0 A W1 D) : Lp N s r w0 m0 h0 A D W e v H W1 D := by
  obtain ⟨_, kn, hh, _⟩ := hst
  exact ⟨hs1, hh.lt, kn.base.size, fun j hj => kn.lt j hj, Out.of hp.bel (Nat.le_refl _), fun j hj => .inl hj, by rw [hp.sz]; exact Nat.le_refl _, hp.b4, e, fun _ _ => rfl, hp.b5⟩
theorem post_lp {A : Gr} {D Dk : Nat → Prop} {W X : World} {e : Nat → Nat} {v H : Nat} (h : Lp N s r w0 m0 h0 A D W e v H X Dk) {b b' : Bool} (hb : b = b') : Post N s r w0 m0 h0 A W D b' (.returned (.bool b)) X :=
  ⟨Dk, by rw [hb], h.st, h.out, fun j hj => by
    rcases h.dk j hj with h | h
    · exact .inl h
    · exact .inr (by omega)⟩
theorem arr_c {X : World} {g : Nat} {e : Nat → Nat} (h : X.heap[g]? = some (.cells (arr4 e) 131 (0, 0))) : X.cell? ⟨g, 0, none⟩ = some (.int .i64 (e 0 : Nat)) ∧ X.cell? ⟨g, 1, none⟩ = some (.int .i64 (e 1 : Nat)) ∧ X.cell? ⟨g, 2, none⟩ = some (.int .i64 (e 2 : Nat)) ∧ X.cell? ⟨g, 3, none⟩ = some (.int .i64 (e 3 : Nat)) := by
  unfold arr4 at h
  refine ⟨?_, ?_, ?_, ?_⟩ <;> simp [World.cell?, h]
theorem count_succ (p : Nat → Bool) (k : Nat) : (List.range (k + 1)).countP p = (List.range k).countP p + if p k = true then 1 else 0 := by
  rw [List.range_succ, List.countP_append]
  cases h : p k <;> simp [h]
set_option maxHeartbeats 12800000 in
set_option maxRecDepth 100000 in
theorem dec_qu {A : Gr} (hA : A.n = N) (hN : N ≤ 8) {cq : UInt8} (hcq : cq = 65 ∨ cq = 83 ∨ cq = 50 ∨ cq = 51 ∨ cq = 52) {a : Fm} {v : Nat} (ia : TruP N s r w0 m0 h0 A a) (hk : (Fm.qu cq v a).ok) : DecP N s r w0 m0 h0 A (.qu cq v a) := by
  intro H D W e ht hv hf hst
  obtain ⟨K0, htk, hnd⟩ := ht
  obtain ⟨b, off, cap, p2, pk, -⟩ := part_c hnd
  obtain ⟨bl, ol, cl, p1, pl⟩ := letter_c hnd
  have hv4 : v < 4 := hk.2.1
  have hfa : ∀ k, k < N → ∀ u, u < 4 → inS a.free u = true → sat.put e v k u < A.n := fun k hkn u hu h => by
    by_cases huv : u = v
    · rw [huv, put_same, hA]; exact hkn
    · rw [put_else huv]
      refine hf u hu ?_
      rw [← inS_bit ⟨(Fm.qu cq v a).free, Fm.free_lt hk⟩ ⟨u, hu⟩]
      rw [← inS_bit ⟨a.free, Fm.free_lt hk.2.2⟩ ⟨u, hu⟩] at h
      show (a.free &&& (15 ^^^ 1 <<< v)).testBit u = true
      have := bit_not ⟨v, hv4⟩ ⟨u, hu⟩
      simp only at this
      rw [Nat.testBit_and, h, this]
      simpa using fun e : v = u => huv e.symm
  have hva : ∀ k, k < N → V8 (sat.put e v k) := fun k hkn u hu => by
    by_cases huv : u = v
    · rw [huv, put_same]; omega
    · rw [put_else huv]; exact hv u hu
  have hst0 := hst
  have p0 : w0.cell? ⟨H, 0, none⟩ = some (.int .u8 (cq.toNat : Int)) := by
    obtain ⟨vv, pv, -, -, n0, -⟩ := hnd.cells
    exact n0
  obtain ⟨W1, hW1⟩ : ∃ W1, W1 = (W.alloc (.cells #[.pointer (some ⟨H, 0, none⟩)] 80)).alloc (.cells #[.int .i64 (e 0 : Nat), .int .i64 (e 1 : Nat), .int .i64 (e 2 : Nat), .int .i64 (e 3 : Nat)] 131) := ⟨_, rfl⟩
  obtain ⟨hp, hs1⟩ := pre_of hst (show fmt.Node 84 w0 H cq [v] [K0] _ _ from hnd) hW1
  have HR := Lib.hid (rd_of hst hp hs1)
  have HP := Lib.hid hp
  have HS := Lib.hid hs1
  have HW1 := Lib.hid hW1
  have n0 : W1.cell? ⟨H, 0, none⟩ = some (.int .u8 (cq.toNat : Int)) := by
    obtain ⟨vv, pv, -, -, n0, -⟩ := hp.node.cells
    exact n0
  have c4 := hp.c.1
  have HV := Lib.hid hv
  have HL0 : Hid (Lp N s r w0 m0 h0 A D W e v H W1 D) := lp_start hst0 hp hs1
  clear hst0
  clear hp hs1 hW1 hst hv
  unfold vals
  have HI := Lib.hid ia
  have HFA := Lib.hid hfa
  have HVA := Lib.hid hva
  have HTK := Lib.hid htk
  have HHA := Lib.hid hA
  have e116 : ((cq.toNat : Int) == 116) = false := by rcases hcq with rfl | rfl | rfl | rfl | rfl <;> rfl
  have e102 : ((cq.toNat : Int) == 102) = false := by rcases hcq with rfl | rfl | rfl | rfl | rfl <;> rfl
  have e80 : ((cq.toNat : Int) == 80) = false := by rcases hcq with rfl | rfl | rfl | rfl | rfl <;> rfl
  have e61 : ((cq.toNat : Int) == 61) = false := by rcases hcq with rfl | rfl | rfl | rfl | rfl <;> rfl
  have e69 : ((cq.toNat : Int) == 69) = false := by rcases hcq with rfl | rfl | rfl | rfl | rfl <;> rfl
  have e33 : ((cq.toNat : Int) == 33) = false := by rcases hcq with rfl | rfl | rfl | rfl | rfl <;> rfl
  have e38 : ((cq.toNat : Int) == 38) = false := by rcases hcq with rfl | rfl | rfl | rfl | rfl <;> rfl
  have e124 : ((cq.toNat : Int) == 124) = false := by rcases hcq with rfl | rfl | rfl | rfl | rfl <;> rfl
  have HCQ := Lib.hid hcq
  clear hcq
  have q0 := (hold_c HS.out).1
  clear ia hf hfa hva htk hnd hk hA HR HV HP
  go_enter Tryd.func178, Tryd.ntmps178
  go_upto_region 1 with (fail)
  rw [← HW1.out]
  go_wp2_with fail
  go_loopw [8, 9, 107] (fun c _ i X => ∃ (k : Nat) (cn : Nat) (Dk : Nat → Prop), k ≤ N ∧ i = .int .i64 (k : Nat) ∧ c = .int .i64 (cn : Nat) ∧ cn = (List.range k).countP (fun x => sat A a (sat.put e v x)) ∧ Lp N s r w0 m0 h0 A D W e v H X Dk) (fun _ _ i _ => N - (intOf i).toNat)
  case atStart => exact ⟨0, 0, D, Nat.zero_le _, rfl, rfl, rfl, HL0.out⟩
  case round =>
    clear HL0 q0 n0 c4
    obtain ⟨k, cn, Dk, hkN, rfl, rfl, hcn, hlp⟩ := hrel
    have HCN := Lib.hid hcn
    have HLP := Lib.hid hlp
    clear hcn hlp
    by_cases hlt : k < N
    · have tk : decide ((k : Int) < (N : Int)) = true := by simp; omega
      have g4 := HLP.out.c4
      have n1 := HLP.out.old p1
      have nl := HLP.out.old pl
      have hset := HLP.out.set hv4 k
      have HST := Lib.hid hset
      clear hset
      obtain h | h | h | h : v = 0 ∨ v = 1 ∨ v = 2 ∨ v = 3 := by omega
      · have kk : (vb v).toNat = 97 + 0 := by rw [h]; exact vb_nat (by decide)
        rw [kk] at nl
        have hfz := HLP.out.fz 0
        obtain ⟨e5, -, hb5⟩ := HLP.out.b5
        have hc5 := (arr_c hb5).1
        clear hb5
        obtain ⟨X2, hX2⟩ : ∃ X2, X2 = wr.setCell ⟨W.heap.size + 1, 0, none⟩ (.int .i64 (k : Nat)) := ⟨_, rfl⟩
        have HX2 := Lib.hid hX2
        have hst2 : Lp N s r w0 m0 h0 A D W e v H X2 Dk ∧ X2.heap[W.heap.size + 1]? = some (.cells (arr4 (sat.put e v k)) 131 (0, 0)) := by
          have := HST.out
          rw [h] at this ⊢
          rw [hX2]; exact this
        have HS2 := Lib.hid hst2
        clear hst2 hX2 kk h HST
        have tk5 : decide ((97 + 0 - 97 : Int) < 4) = true := by decide
        go_upto_region 24 with (fail)
        rw [← HX2.out]
        clear hfz hc5 g4 n1 nl tk tk5 HX2
        have f4 : ∀ QQ : Wd (fun X => Hid (Out Dk X2 X)), QQ.w.cell? ⟨W.heap.size, 0, none⟩ = some (.pointer (some ⟨H, 0, none⟩)) := fun QQ => QQ.ok.out.cell HS2.out.1.c4 HS2.out.1.n4
        have f50 : ∀ QQ : Wd (fun X => Hid (Out Dk X2 X)), QQ.w.cell? ⟨W.heap.size + 1, 0, none⟩ = some (.int .i64 (sat.put e v k 0 : Nat)) := fun QQ => QQ.ok.out.cell (arr_c HS2.out.2).1 HS2.out.1.n5
        have f51 : ∀ QQ : Wd (fun X => Hid (Out Dk X2 X)), QQ.w.cell? ⟨W.heap.size + 1, 1, none⟩ = some (.int .i64 (sat.put e v k 1 : Nat)) := fun QQ => QQ.ok.out.cell (arr_c HS2.out.2).2.1 HS2.out.1.n5
        have f52 : ∀ QQ : Wd (fun X => Hid (Out Dk X2 X)), QQ.w.cell? ⟨W.heap.size + 1, 2, none⟩ = some (.int .i64 (sat.put e v k 2 : Nat)) := fun QQ => QQ.ok.out.cell (arr_c HS2.out.2).2.2.1 HS2.out.1.n5
        have f53 : ∀ QQ : Wd (fun X => Hid (Out Dk X2 X)), QQ.w.cell? ⟨W.heap.size + 1, 3, none⟩ = some (.int .i64 (sat.put e v k 3 : Nat)) := fun QQ => QQ.ok.out.cell (arr_c HS2.out.2).2.2.2 HS2.out.1.n5
        have nd : ∀ {j o : Nat} {x : Value}, w0.cell? ⟨j, o, none⟩ = some x → ¬ Dk j := fun {j o x} hc hd => by
          obtain ⟨_, kn, _⟩ := HS2.out.1.st
          have h1 := kn.lo _ hd
          have h2 := World.block_lt_of_cell? w0 ⟨j, o, none⟩ hc
          have h3 : j < w0.heap.size := h2
          omega
        have f2 : ∀ QQ : Wd (fun X => Hid (Out Dk X2 X)), QQ.w.cell? ⟨H, 2, none⟩ = some (.slice (some ⟨b, off, none⟩) 1 cap) := fun QQ => QQ.ok.out.cell (HS2.out.1.old p2) (nd p2)
        have fk : ∀ QQ : Wd (fun X => Hid (Out Dk X2 X)), QQ.w.cell? ⟨b, off, none⟩ = some (.pointer (some ⟨K0, 0, none⟩)) := fun QQ => QQ.ok.out.cell (HS2.out.1.old pk) (nd pk)
        have hne : Nonempty (Wd (fun X => Hid (Out Dk X2 X))) := ⟨⟨X2, Lib.hid (Out.refl _ _)⟩⟩
        clear nd
        go_wp2_with fail
        refine chain (S := (fun X => Hid (Out Dk X2 X))) [([true, true, true, true, true, true, true, true], 8)] [false, false, false, false, false, false, false, false, false] (by kernel_rfl) (by kernel_rfl) (by kernel_rfl) (Lib.hid (Out.of (Below.refl X2.heap.size X2).drew (Nat.le_refl _))) ?_
        simp only [wpSegs, pickB, List.dropLast_cons_cons, List.dropLast_singleton, List.getLast?_cons_cons, List.getLast?_singleton, List.toList_toArray, List.getElem?_toArray, List.getElem?_cons_succ, List.getElem?_cons_zero, Option.toList_some]
        repeat (go_big_quiet_step (fail))
        refine wpQuiet_nil ?_
        intro K hK
        go_wp2_with fail
        refine (HI.out K0 Dk _ (sat.put e v k) HTK.out (HVA.out k hlt) (HFA.out k hlt) (HS2.out.1.st.below (Below.refl _ _).drew (Nat.le_refl _))).mono ?_
        rintro e1 X3 ⟨D3, he1, hs3, ho3, hg3⟩
        have ho3' : Out Dk X2 X3 := (Out.of (Below.refl X2.heap.size X2).drew (Nat.le_refl _)).trans ho3 fun j hj => .inl hj
        have HL3 : Hid (Lp N s r w0 m0 h0 A D W e v H X3 D3) := HS2.out.1.more hs3 ho3' hg3
        have HO3 := Lib.hid ho3'
        obtain ⟨bb, hbb⟩ : ∃ bb, bb = sat A a (sat.put e v k) := ⟨_, rfl⟩
        rw [← hbb] at he1
        subst he1
        have HBB := Lib.hid hbb
        clear hs3 ho3 hg3 ho3' hbb
        go_wp2_with fail
        refine hK _ _ HO3 ?_
        clear hK K
        repeat (go_big_quiet_step (fail))
        refine wpQuiet_nil ?_
        clear f4 f50 f51 f52 f53 f2 fk hne HS2 HLP HO3
        have hc1 := count_succ (fun x => sat A a (sat.put e v x)) k
        rw [← HCN.out] at hc1
        cases bb with
        | false =>
          have hb := HBB.out.symm
          have hc2 : cn = (List.range (k + 1)).countP fun x => sat A a (sat.put e v x) := by rw [hc1]; simp [hb]
          have HC1 := Lib.hid hc2
          clear hc1 hc2 hb HCN HBB
          go_wp2
          go_roundw
          case rel => exact ⟨k + 1, cn, D3, by omega, by go_num, by go_num, HC1.out, HL3.out⟩
          case measure => simp [intOf]; omega
        | true =>
          have hb := HBB.out.symm
          have hcb : cn ≤ N := by rw [HCN.out]; exact Nat.le_trans List.countP_le_length (by rw [List.length_range]; omega)
          have hc2 : cn + 1 = (List.range (k + 1)).countP fun x => sat A a (sat.put e v x) := by rw [hc1]; simp [hb]
          have HC1 := Lib.hid hc2
          clear hc1 hc2 hb HCN HBB
          go_wp2
          go_roundw
          case rel => exact ⟨k + 1, cn + 1, D3, by omega, by go_num, by go_num, HC1.out, HL3.out⟩
          case measure => simp [intOf]; omega
      · have kk : (vb v).toNat = 97 + 1 := by rw [h]; exact vb_nat (by decide)
        rw [kk] at nl
        have hfz := HLP.out.fz 1
        obtain ⟨e5, -, hb5⟩ := HLP.out.b5
        have hc5 := (arr_c hb5).2.1
        clear hb5
        obtain ⟨X2, hX2⟩ : ∃ X2, X2 = wr.setCell ⟨W.heap.size + 1, 1, none⟩ (.int .i64 (k : Nat)) := ⟨_, rfl⟩
        have HX2 := Lib.hid hX2
        have hst2 : Lp N s r w0 m0 h0 A D W e v H X2 Dk ∧ X2.heap[W.heap.size + 1]? = some (.cells (arr4 (sat.put e v k)) 131 (0, 0)) := by
          have := HST.out
          rw [h] at this ⊢
          rw [hX2]; exact this
        have HS2 := Lib.hid hst2
        clear hst2 hX2 kk h HST
        have tk5 : decide ((97 + 1 - 97 : Int) < 4) = true := by decide
        go_upto_region 24 with (fail)
        rw [← HX2.out]
        clear hfz hc5 g4 n1 nl tk tk5 HX2
        have f4 : ∀ QQ : Wd (fun X => Hid (Out Dk X2 X)), QQ.w.cell? ⟨W.heap.size, 0, none⟩ = some (.pointer (some ⟨H, 0, none⟩)) := fun QQ => QQ.ok.out.cell HS2.out.1.c4 HS2.out.1.n4
        have f50 : ∀ QQ : Wd (fun X => Hid (Out Dk X2 X)), QQ.w.cell? ⟨W.heap.size + 1, 0, none⟩ = some (.int .i64 (sat.put e v k 0 : Nat)) := fun QQ => QQ.ok.out.cell (arr_c HS2.out.2).1 HS2.out.1.n5
        have f51 : ∀ QQ : Wd (fun X => Hid (Out Dk X2 X)), QQ.w.cell? ⟨W.heap.size + 1, 1, none⟩ = some (.int .i64 (sat.put e v k 1 : Nat)) := fun QQ => QQ.ok.out.cell (arr_c HS2.out.2).2.1 HS2.out.1.n5
        have f52 : ∀ QQ : Wd (fun X => Hid (Out Dk X2 X)), QQ.w.cell? ⟨W.heap.size + 1, 2, none⟩ = some (.int .i64 (sat.put e v k 2 : Nat)) := fun QQ => QQ.ok.out.cell (arr_c HS2.out.2).2.2.1 HS2.out.1.n5
        have f53 : ∀ QQ : Wd (fun X => Hid (Out Dk X2 X)), QQ.w.cell? ⟨W.heap.size + 1, 3, none⟩ = some (.int .i64 (sat.put e v k 3 : Nat)) := fun QQ => QQ.ok.out.cell (arr_c HS2.out.2).2.2.2 HS2.out.1.n5
        have nd : ∀ {j o : Nat} {x : Value}, w0.cell? ⟨j, o, none⟩ = some x → ¬ Dk j := fun {j o x} hc hd => by
          obtain ⟨_, kn, _⟩ := HS2.out.1.st
          have h1 := kn.lo _ hd
          have h2 := World.block_lt_of_cell? w0 ⟨j, o, none⟩ hc
          have h3 : j < w0.heap.size := h2
          omega
        have f2 : ∀ QQ : Wd (fun X => Hid (Out Dk X2 X)), QQ.w.cell? ⟨H, 2, none⟩ = some (.slice (some ⟨b, off, none⟩) 1 cap) := fun QQ => QQ.ok.out.cell (HS2.out.1.old p2) (nd p2)
        have fk : ∀ QQ : Wd (fun X => Hid (Out Dk X2 X)), QQ.w.cell? ⟨b, off, none⟩ = some (.pointer (some ⟨K0, 0, none⟩)) := fun QQ => QQ.ok.out.cell (HS2.out.1.old pk) (nd pk)
        have hne : Nonempty (Wd (fun X => Hid (Out Dk X2 X))) := ⟨⟨X2, Lib.hid (Out.refl _ _)⟩⟩
        clear nd
        go_wp2_with fail
        refine chain (S := (fun X => Hid (Out Dk X2 X))) [([true, true, true, true, true, true, true, true], 8)] [false, false, false, false, false, false, false, false, false] (by kernel_rfl) (by kernel_rfl) (by kernel_rfl) (Lib.hid (Out.of (Below.refl X2.heap.size X2).drew (Nat.le_refl _))) ?_
        simp only [wpSegs, pickB, List.dropLast_cons_cons, List.dropLast_singleton, List.getLast?_cons_cons, List.getLast?_singleton, List.toList_toArray, List.getElem?_toArray, List.getElem?_cons_succ, List.getElem?_cons_zero, Option.toList_some]
        repeat (go_big_quiet_step (fail))
        refine wpQuiet_nil ?_
        intro K hK
        go_wp2_with fail
        refine (HI.out K0 Dk _ (sat.put e v k) HTK.out (HVA.out k hlt) (HFA.out k hlt) (HS2.out.1.st.below (Below.refl _ _).drew (Nat.le_refl _))).mono ?_
        rintro e1 X3 ⟨D3, he1, hs3, ho3, hg3⟩
        have ho3' : Out Dk X2 X3 := (Out.of (Below.refl X2.heap.size X2).drew (Nat.le_refl _)).trans ho3 fun j hj => .inl hj
        have HL3 : Hid (Lp N s r w0 m0 h0 A D W e v H X3 D3) := HS2.out.1.more hs3 ho3' hg3
        have HO3 := Lib.hid ho3'
        obtain ⟨bb, hbb⟩ : ∃ bb, bb = sat A a (sat.put e v k) := ⟨_, rfl⟩
        rw [← hbb] at he1
        subst he1
        have HBB := Lib.hid hbb
        clear hs3 ho3 hg3 ho3' hbb
        go_wp2_with fail
        refine hK _ _ HO3 ?_
        clear hK K
        repeat (go_big_quiet_step (fail))
        refine wpQuiet_nil ?_
        clear f4 f50 f51 f52 f53 f2 fk hne HS2 HLP HO3
        have hc1 := count_succ (fun x => sat A a (sat.put e v x)) k
        rw [← HCN.out] at hc1
        cases bb with
        | false =>
          have hb := HBB.out.symm
          have hc2 : cn = (List.range (k + 1)).countP fun x => sat A a (sat.put e v x) := by rw [hc1]; simp [hb]
          have HC1 := Lib.hid hc2
          clear hc1 hc2 hb HCN HBB
          go_wp2
          go_roundw
          case rel => exact ⟨k + 1, cn, D3, by omega, by go_num, by go_num, HC1.out, HL3.out⟩
          case measure => simp [intOf]; omega
        | true =>
          have hb := HBB.out.symm
          have hcb : cn ≤ N := by rw [HCN.out]; exact Nat.le_trans List.countP_le_length (by rw [List.length_range]; omega)
          have hc2 : cn + 1 = (List.range (k + 1)).countP fun x => sat A a (sat.put e v x) := by rw [hc1]; simp [hb]
          have HC1 := Lib.hid hc2
          clear hc1 hc2 hb HCN HBB
          go_wp2
          go_roundw
          case rel => exact ⟨k + 1, cn + 1, D3, by omega, by go_num, by go_num, HC1.out, HL3.out⟩
          case measure => simp [intOf]; omega
      · have kk : (vb v).toNat = 97 + 2 := by rw [h]; exact vb_nat (by decide)
        rw [kk] at nl
        have hfz := HLP.out.fz 2
        obtain ⟨e5, -, hb5⟩ := HLP.out.b5
        have hc5 := (arr_c hb5).2.2.1
        clear hb5
        obtain ⟨X2, hX2⟩ : ∃ X2, X2 = wr.setCell ⟨W.heap.size + 1, 2, none⟩ (.int .i64 (k : Nat)) := ⟨_, rfl⟩
        have HX2 := Lib.hid hX2
        have hst2 : Lp N s r w0 m0 h0 A D W e v H X2 Dk ∧ X2.heap[W.heap.size + 1]? = some (.cells (arr4 (sat.put e v k)) 131 (0, 0)) := by
          have := HST.out
          rw [h] at this ⊢
          rw [hX2]; exact this
        have HS2 := Lib.hid hst2
        clear hst2 hX2 kk h HST
        have tk5 : decide ((97 + 2 - 97 : Int) < 4) = true := by decide
        go_upto_region 24 with (fail)
        rw [← HX2.out]
        clear hfz hc5 g4 n1 nl tk tk5 HX2
        have f4 : ∀ QQ : Wd (fun X => Hid (Out Dk X2 X)), QQ.w.cell? ⟨W.heap.size, 0, none⟩ = some (.pointer (some ⟨H, 0, none⟩)) := fun QQ => QQ.ok.out.cell HS2.out.1.c4 HS2.out.1.n4
        have f50 : ∀ QQ : Wd (fun X => Hid (Out Dk X2 X)), QQ.w.cell? ⟨W.heap.size + 1, 0, none⟩ = some (.int .i64 (sat.put e v k 0 : Nat)) := fun QQ => QQ.ok.out.cell (arr_c HS2.out.2).1 HS2.out.1.n5
        have f51 : ∀ QQ : Wd (fun X => Hid (Out Dk X2 X)), QQ.w.cell? ⟨W.heap.size + 1, 1, none⟩ = some (.int .i64 (sat.put e v k 1 : Nat)) := fun QQ => QQ.ok.out.cell (arr_c HS2.out.2).2.1 HS2.out.1.n5
        have f52 : ∀ QQ : Wd (fun X => Hid (Out Dk X2 X)), QQ.w.cell? ⟨W.heap.size + 1, 2, none⟩ = some (.int .i64 (sat.put e v k 2 : Nat)) := fun QQ => QQ.ok.out.cell (arr_c HS2.out.2).2.2.1 HS2.out.1.n5
        have f53 : ∀ QQ : Wd (fun X => Hid (Out Dk X2 X)), QQ.w.cell? ⟨W.heap.size + 1, 3, none⟩ = some (.int .i64 (sat.put e v k 3 : Nat)) := fun QQ => QQ.ok.out.cell (arr_c HS2.out.2).2.2.2 HS2.out.1.n5
        have nd : ∀ {j o : Nat} {x : Value}, w0.cell? ⟨j, o, none⟩ = some x → ¬ Dk j := fun {j o x} hc hd => by
          obtain ⟨_, kn, _⟩ := HS2.out.1.st
          have h1 := kn.lo _ hd
          have h2 := World.block_lt_of_cell? w0 ⟨j, o, none⟩ hc
          have h3 : j < w0.heap.size := h2
          omega
        have f2 : ∀ QQ : Wd (fun X => Hid (Out Dk X2 X)), QQ.w.cell? ⟨H, 2, none⟩ = some (.slice (some ⟨b, off, none⟩) 1 cap) := fun QQ => QQ.ok.out.cell (HS2.out.1.old p2) (nd p2)
        have fk : ∀ QQ : Wd (fun X => Hid (Out Dk X2 X)), QQ.w.cell? ⟨b, off, none⟩ = some (.pointer (some ⟨K0, 0, none⟩)) := fun QQ => QQ.ok.out.cell (HS2.out.1.old pk) (nd pk)
        have hne : Nonempty (Wd (fun X => Hid (Out Dk X2 X))) := ⟨⟨X2, Lib.hid (Out.refl _ _)⟩⟩
        clear nd
        go_wp2_with fail
        refine chain (S := (fun X => Hid (Out Dk X2 X))) [([true, true, true, true, true, true, true, true], 8)] [false, false, false, false, false, false, false, false, false] (by kernel_rfl) (by kernel_rfl) (by kernel_rfl) (Lib.hid (Out.of (Below.refl X2.heap.size X2).drew (Nat.le_refl _))) ?_
        simp only [wpSegs, pickB, List.dropLast_cons_cons, List.dropLast_singleton, List.getLast?_cons_cons, List.getLast?_singleton, List.toList_toArray, List.getElem?_toArray, List.getElem?_cons_succ, List.getElem?_cons_zero, Option.toList_some]
        repeat (go_big_quiet_step (fail))
        refine wpQuiet_nil ?_
        intro K hK
        go_wp2_with fail
        refine (HI.out K0 Dk _ (sat.put e v k) HTK.out (HVA.out k hlt) (HFA.out k hlt) (HS2.out.1.st.below (Below.refl _ _).drew (Nat.le_refl _))).mono ?_
        rintro e1 X3 ⟨D3, he1, hs3, ho3, hg3⟩
        have ho3' : Out Dk X2 X3 := (Out.of (Below.refl X2.heap.size X2).drew (Nat.le_refl _)).trans ho3 fun j hj => .inl hj
        have HL3 : Hid (Lp N s r w0 m0 h0 A D W e v H X3 D3) := HS2.out.1.more hs3 ho3' hg3
        have HO3 := Lib.hid ho3'
        obtain ⟨bb, hbb⟩ : ∃ bb, bb = sat A a (sat.put e v k) := ⟨_, rfl⟩
        rw [← hbb] at he1
        subst he1
        have HBB := Lib.hid hbb
        clear hs3 ho3 hg3 ho3' hbb
        go_wp2_with fail
        refine hK _ _ HO3 ?_
        clear hK K
        repeat (go_big_quiet_step (fail))
        refine wpQuiet_nil ?_
        clear f4 f50 f51 f52 f53 f2 fk hne HS2 HLP HO3
        have hc1 := count_succ (fun x => sat A a (sat.put e v x)) k
        rw [← HCN.out] at hc1
        cases bb with
        | false =>
          have hb := HBB.out.symm
          have hc2 : cn = (List.range (k + 1)).countP fun x => sat A a (sat.put e v x) := by rw [hc1]; simp [hb]
          have HC1 := Lib.hid hc2
          clear hc1 hc2 hb HCN HBB
          go_wp2
          go_roundw
          case rel => exact ⟨k + 1, cn, D3, by omega, by go_num, by go_num, HC1.out, HL3.out⟩
          case measure => simp [intOf]; omega
        | true =>
          have hb := HBB.out.symm
          have hcb : cn ≤ N := by rw [HCN.out]; exact Nat.le_trans List.countP_le_length (by rw [List.length_range]; omega)
          have hc2 : cn + 1 = (List.range (k + 1)).countP fun x => sat A a (sat.put e v x) := by rw [hc1]; simp [hb]
          have HC1 := Lib.hid hc2
          clear hc1 hc2 hb HCN HBB
          go_wp2
          go_roundw
          case rel => exact ⟨k + 1, cn + 1, D3, by omega, by go_num, by go_num, HC1.out, HL3.out⟩
          case measure => simp [intOf]; omega
      · have kk : (vb v).toNat = 97 + 3 := by rw [h]; exact vb_nat (by decide)
        rw [kk] at nl
        have hfz := HLP.out.fz 3
        obtain ⟨e5, -, hb5⟩ := HLP.out.b5
        have hc5 := (arr_c hb5).2.2.2
        clear hb5
        obtain ⟨X2, hX2⟩ : ∃ X2, X2 = wr.setCell ⟨W.heap.size + 1, 3, none⟩ (.int .i64 (k : Nat)) := ⟨_, rfl⟩
        have HX2 := Lib.hid hX2
        have hst2 : Lp N s r w0 m0 h0 A D W e v H X2 Dk ∧ X2.heap[W.heap.size + 1]? = some (.cells (arr4 (sat.put e v k)) 131 (0, 0)) := by
          have := HST.out
          rw [h] at this ⊢
          rw [hX2]; exact this
        have HS2 := Lib.hid hst2
        clear hst2 hX2 kk h HST
        have tk5 : decide ((97 + 3 - 97 : Int) < 4) = true := by decide
        go_upto_region 24 with (fail)
        rw [← HX2.out]
        clear hfz hc5 g4 n1 nl tk tk5 HX2
        have f4 : ∀ QQ : Wd (fun X => Hid (Out Dk X2 X)), QQ.w.cell? ⟨W.heap.size, 0, none⟩ = some (.pointer (some ⟨H, 0, none⟩)) := fun QQ => QQ.ok.out.cell HS2.out.1.c4 HS2.out.1.n4
        have f50 : ∀ QQ : Wd (fun X => Hid (Out Dk X2 X)), QQ.w.cell? ⟨W.heap.size + 1, 0, none⟩ = some (.int .i64 (sat.put e v k 0 : Nat)) := fun QQ => QQ.ok.out.cell (arr_c HS2.out.2).1 HS2.out.1.n5
        have f51 : ∀ QQ : Wd (fun X => Hid (Out Dk X2 X)), QQ.w.cell? ⟨W.heap.size + 1, 1, none⟩ = some (.int .i64 (sat.put e v k 1 : Nat)) := fun QQ => QQ.ok.out.cell (arr_c HS2.out.2).2.1 HS2.out.1.n5
        have f52 : ∀ QQ : Wd (fun X => Hid (Out Dk X2 X)), QQ.w.cell? ⟨W.heap.size + 1, 2, none⟩ = some (.int .i64 (sat.put e v k 2 : Nat)) := fun QQ => QQ.ok.out.cell (arr_c HS2.out.2).2.2.1 HS2.out.1.n5
        have f53 : ∀ QQ : Wd (fun X => Hid (Out Dk X2 X)), QQ.w.cell? ⟨W.heap.size + 1, 3, none⟩ = some (.int .i64 (sat.put e v k 3 : Nat)) := fun QQ => QQ.ok.out.cell (arr_c HS2.out.2).2.2.2 HS2.out.1.n5
        have nd : ∀ {j o : Nat} {x : Value}, w0.cell? ⟨j, o, none⟩ = some x → ¬ Dk j := fun {j o x} hc hd => by
          obtain ⟨_, kn, _⟩ := HS2.out.1.st
          have h1 := kn.lo _ hd
          have h2 := World.block_lt_of_cell? w0 ⟨j, o, none⟩ hc
          have h3 : j < w0.heap.size := h2
          omega
        have f2 : ∀ QQ : Wd (fun X => Hid (Out Dk X2 X)), QQ.w.cell? ⟨H, 2, none⟩ = some (.slice (some ⟨b, off, none⟩) 1 cap) := fun QQ => QQ.ok.out.cell (HS2.out.1.old p2) (nd p2)
        have fk : ∀ QQ : Wd (fun X => Hid (Out Dk X2 X)), QQ.w.cell? ⟨b, off, none⟩ = some (.pointer (some ⟨K0, 0, none⟩)) := fun QQ => QQ.ok.out.cell (HS2.out.1.old pk) (nd pk)
        have hne : Nonempty (Wd (fun X => Hid (Out Dk X2 X))) := ⟨⟨X2, Lib.hid (Out.refl _ _)⟩⟩
        clear nd
        go_wp2_with fail
        refine chain (S := (fun X => Hid (Out Dk X2 X))) [([true, true, true, true, true, true, true, true], 8)] [false, false, false, false, false, false, false, false, false] (by kernel_rfl) (by kernel_rfl) (by kernel_rfl) (Lib.hid (Out.of (Below.refl X2.heap.size X2).drew (Nat.le_refl _))) ?_
        simp only [wpSegs, pickB, List.dropLast_cons_cons, List.dropLast_singleton, List.getLast?_cons_cons, List.getLast?_singleton, List.toList_toArray, List.getElem?_toArray, List.getElem?_cons_succ, List.getElem?_cons_zero, Option.toList_some]
        repeat (go_big_quiet_step (fail))
        refine wpQuiet_nil ?_
        intro K hK
        go_wp2_with fail
        refine (HI.out K0 Dk _ (sat.put e v k) HTK.out (HVA.out k hlt) (HFA.out k hlt) (HS2.out.1.st.below (Below.refl _ _).drew (Nat.le_refl _))).mono ?_
        rintro e1 X3 ⟨D3, he1, hs3, ho3, hg3⟩
        have ho3' : Out Dk X2 X3 := (Out.of (Below.refl X2.heap.size X2).drew (Nat.le_refl _)).trans ho3 fun j hj => .inl hj
        have HL3 : Hid (Lp N s r w0 m0 h0 A D W e v H X3 D3) := HS2.out.1.more hs3 ho3' hg3
        have HO3 := Lib.hid ho3'
        obtain ⟨bb, hbb⟩ : ∃ bb, bb = sat A a (sat.put e v k) := ⟨_, rfl⟩
        rw [← hbb] at he1
        subst he1
        have HBB := Lib.hid hbb
        clear hs3 ho3 hg3 ho3' hbb
        go_wp2_with fail
        refine hK _ _ HO3 ?_
        clear hK K
        repeat (go_big_quiet_step (fail))
        refine wpQuiet_nil ?_
        clear f4 f50 f51 f52 f53 f2 fk hne HS2 HLP HO3
        have hc1 := count_succ (fun x => sat A a (sat.put e v x)) k
        rw [← HCN.out] at hc1
        cases bb with
        | false =>
          have hb := HBB.out.symm
          have hc2 : cn = (List.range (k + 1)).countP fun x => sat A a (sat.put e v x) := by rw [hc1]; simp [hb]
          have HC1 := Lib.hid hc2
          clear hc1 hc2 hb HCN HBB
          go_wp2
          go_roundw
          case rel => exact ⟨k + 1, cn, D3, by omega, by go_num, by go_num, HC1.out, HL3.out⟩
          case measure => simp [intOf]; omega
        | true =>
          have hb := HBB.out.symm
          have hcb : cn ≤ N := by rw [HCN.out]; exact Nat.le_trans List.countP_le_length (by rw [List.length_range]; omega)
          have hc2 : cn + 1 = (List.range (k + 1)).countP fun x => sat A a (sat.put e v x) := by rw [hc1]; simp [hb]
          have HC1 := Lib.hid hc2
          clear hc1 hc2 hb HCN HBB
          go_wp2
          go_roundw
          case rel => exact ⟨k + 1, cn + 1, D3, by omega, by go_num, by go_num, HC1.out, HL3.out⟩
          case measure => simp [intOf]; omega
    · obtain rfl : N = k := by omega
      have tk : decide ((N : Int) < (N : Int)) = false := by simp
      have g4 := HLP.out.c4
      clear e116 e102 e80 e61 e69 e33 e38 e124
      have hcq := HCQ.out
      clear HCQ
      rcases hcq with rfl | rfl | rfl | rfl | rfl
      · have n0 : wr.cell? ⟨H, 0, none⟩ = some (.int .u8 ((65 : UInt8).toNat : Int)) := HLP.out.old p0
        have q0 : wr.cell? ⟨h0, 0, none⟩ = some (.int .i64 (N : Int)) := (hold_c HLP.out.st).1
        go_wp2
        go_ret
        exact post_lp HLP.out (by
          show _ = decide (_ = A.n)
          rw [HHA.out, ← HCN.out]
          first | rfl | (rw [Bool.eq_iff_iff]; done) | (rw [Bool.eq_iff_iff]; simp; done) | (rw [Bool.eq_iff_iff]; simp; omega))
      · have n0 : wr.cell? ⟨H, 0, none⟩ = some (.int .u8 ((83 : UInt8).toNat : Int)) := HLP.out.old p0
        have hfin : decide (cn > 0) = enough 83 A.n ((List.range A.n).countP fun x => sat A a (sat.put e v x)) := by
          rw [HHA.out, ← HCN.out]
          rfl
        have HFIN := Lib.hid hfin
        clear hfin
        go_wp2
        go_ret
        refine post_lp HLP.out (Eq.trans ?_ HFIN.out)
        first | rfl | (simp; done) | (simp; omega)
      · have n0 : wr.cell? ⟨H, 0, none⟩ = some (.int .u8 ((50 : UInt8).toNat : Int)) := HLP.out.old p0
        go_wp2
        go_ret
        exact post_lp HLP.out (by
          show _ = decide (2 ≤ _)
          rw [HHA.out, ← HCN.out]
          first | rfl | (rw [Bool.eq_iff_iff]; done) | (rw [Bool.eq_iff_iff]; simp; done) | (rw [Bool.eq_iff_iff]; simp; omega))
      · have n0 : wr.cell? ⟨H, 0, none⟩ = some (.int .u8 ((51 : UInt8).toNat : Int)) := HLP.out.old p0
        go_wp2
        go_ret
        exact post_lp HLP.out (by
          show _ = decide (3 ≤ _)
          rw [HHA.out, ← HCN.out]
          first | rfl | (rw [Bool.eq_iff_iff]; done) | (rw [Bool.eq_iff_iff]; simp; done) | (rw [Bool.eq_iff_iff]; simp; omega))
      · have n0 : wr.cell? ⟨H, 0, none⟩ = some (.int .u8 ((52 : UInt8).toNat : Int)) := HLP.out.old p0
        go_wp2
        go_ret
        exact post_lp HLP.out (by
          show _ = decide (4 ≤ _)
          rw [HHA.out, ← HCN.out]
          first | rfl | (rw [Bool.eq_iff_iff]; done) | (rw [Bool.eq_iff_iff]; simp; done) | (rw [Bool.eq_iff_iff]; simp; omega))
  /-- isTrue tells the truth -/
theorem tru (hN : N ≤ 8) (hs : s.size = N) (hr : r.size = N * N) : ∀ a : Fm, a.ok → TruP N s r w0 m0 h0 (gob.gr N s r) a
  | .tf _, hk => isTrue_of hk (dec_tf hk)
  | .p _, hk => isTrue_of hk (dec_p hN hs hk)
  | .r _ _ _, hk => isTrue_of hk (dec_r hN hr hk)
  | .no a, hk => isTrue_of (a := .no a) hk (dec_no (tru hN hs hr a hk))
  | .two op a c, hk => by
    have hop : op = 38 ∨ op = 124 := by
      have h : sort op = .two := hk.1
      revert h
      unfold sort
      repeat' split
      all_goals simp_all
    rcases hop with rfl | rfl
    · exact isTrue_of hk (dec_and (tru hN hs hr a hk.2.1) (tru hN hs hr c hk.2.2) hk)
    · exact isTrue_of hk (dec_or (tru hN hs hr a hk.2.1) (tru hN hs hr c hk.2.2) hk)
  | .qu op v a, hk => by
    have hop : op = 65 ∨ op = 83 ∨ op = 50 ∨ op = 51 ∨ op = 52 := by
      have h : sort op = .qu := hk.1
      revert h
      unfold sort
      repeat' split
      all_goals simp_all
    have ia := tru hN hs hr a hk.2.2
    rcases hop with rfl | rfl | rfl | rfl | rfl
    · exact isTrue_of hk (dec_qu rfl hN (.inl rfl) ia hk)
    · exact isTrue_of hk (dec_qu rfl hN (.inr (.inl rfl)) ia hk)
    · exact isTrue_of hk (dec_qu rfl hN (.inr (.inr (.inl rfl))) ia hk)
    · exact isTrue_of hk (dec_qu rfl hN (.inr (.inr (.inr (.inl rfl)))) ia hk)
    · exact isTrue_of hk (dec_qu rfl hN (.inr (.inr (.inr (.inr (rfl))))) ia hk)
end
end Go.Proofs.YtpcnoiigbmiejaaDoor.ist

/- newHolder: a holder that knows nothing. -/
namespace Go.Proofs.YtpcnoiigbmiejaaDoor.ist
set_option linter.unusedVariables false
set_option linter.unusedSimpArgs false
open Go.ChangeShapes Go.WideShapes Go.ChangeAt Go.RowKit
open Go.Proofs.YtpcnoiigbmiejaaDoor.lib Go.Proofs.YtpcnoiigbmiejaaDoor.st Go.Proofs.YtpcnoiigbmiejaaDoor.flow Go.Proofs.YtpcnoiigbmiejaaDoor.chain Go.Proofs.YtpcnoiigbmiejaaDoor.base Go.Proofs.YtpcnoiigbmiejaaDoor.make Go.Proofs.YtpcnoiigbmiejaaDoor.fm Go.Proofs.YtpcnoiigbmiejaaDoor.fmt Go.Proofs.YtpcnoiigbmiejaaDoor.sat Go.Proofs.YtpcnoiigbmiejaaDoor.game Go.Proofs.YtpcnoiigbmiejaaDoor.keys Go.Proofs.YtpcnoiigbmiejaaDoor.mapr Go.Proofs.YtpcnoiigbmiejaaDoor.tab Go.Proofs.YtpcnoiigbmiejaaDoor.hold

theorem mkMo (W : World) : Sem.run Tryd.prog (Instr.makeMap 128 none) W = .ok (.map (some W.heap.size)) (W.alloc (.map #[] 0)) := by rfl
/-- a holder that knows nothing yet -/
theorem st_new {N : Nat} {s r : ByteArray} {A : Gr} {w0 W : World} {m0 h0 : Nat} (hb : Below w0.heap.size w0 W) (hm : MapR W m0 kvP fun _ => none) (hlo : w0.heap.size ≤ m0) (hh : HoldAt N s r m0 h0 W) (hne : h0 ≠ m0) : St N s r w0 m0 h0 A W (fun k => k = m0) :=
  ⟨fun _ => none, ⟨hb, fun k hk => by rw [hk]; exact hlo, fun k hk => by rw [hk]; exact hm.lt, rfl, hm, (fun H v h => by cases h), (fun H H' b h => by cases h)⟩, hh, hne⟩
set_option maxHeartbeats 1600000 in
set_option maxRecDepth 100000 in
theorem newHolder_any (N : Nat) (s r : ByteArray) (W : World) :
    Calls Tryd.prog 88 #[.agg #[.int .i64 (N : Int), .string s, .string r]] W fun e W' => ∃ m0 h0, e = .returned (.pointer (some ⟨h0, 0, none⟩)) ∧ (∀ A, St N s r W m0 h0 A W' fun k => k = m0) ∧ W.heap.size ≤ m0 ∧ Below W.heap.size W W' := by
  have BX : Hid (Box 24 (W.alloc (.cells #[.int .i64 (N : Int), .string s, .string r] 24)) W.heap.size N s r) := Box.new _ W _ rfl _ _ _
  have hmk := mkMo
  obtain ⟨b0, b1, b2⟩ := Box.c BX.out
  go_enter Tryd.func88, Tryd.ntmps88
  go_wp2
  go_ret
  have ea : (W.alloc (.cells #[.int .i64 (N : Int), .string s, .string r] 24)).heap.size = W.heap.size + 1 := World.size_alloc _ _
  have eb : ((W.alloc (.cells #[.int .i64 (N : Int), .string s, .string r] 24)).alloc (.map #[] 0)).heap.size = W.heap.size + 1 + 1 := by rw [World.size_alloc, ea]
  have hb : Below W.heap.size W (((W.alloc (.cells #[.int .i64 (N : Int), .string s, .string r] 24)).alloc (.map #[] 0)).alloc (.cells #[.int .i64 (N : Int), .string s, .string r, .map (some (W.heap.size + 1))] 130)) :=
    (((Below.refl _ _).alloc (Nat.le_refl _) _).alloc (by omega) _).alloc (by omega) _
  have hm : MapR (((W.alloc (.cells #[.int .i64 (N : Int), .string s, .string r] 24)).alloc (.map #[] 0)).alloc (.cells #[.int .i64 (N : Int), .string s, .string r, .map (some (W.heap.size + 1))] 130)) (W.heap.size + 1) kvP fun _ => none :=
    (MapR.new _ kvP ea).block (heap_alloc_old _ _ (by omega))
  have hh : HoldAt N s r (W.heap.size + 1) (W.heap.size + 1 + 1) (((W.alloc (.cells #[.int .i64 (N : Int), .string s, .string r] 24)).alloc (.map #[] 0)).alloc (.cells #[.int .i64 (N : Int), .string s, .string r, .map (some (W.heap.size + 1))] 130)) := by
    have := heap_alloc_new ((W.alloc (.cells #[.int .i64 (N : Int), .string s, .string r] 24)).alloc (.map #[] 0)) (.cells #[.int .i64 (N : Int), .string s, .string r, .map (some (W.heap.size + 1))] 130)
    rw [eb] at this
    exact this
  exact ⟨W.heap.size + 1, W.heap.size + 1 + 1, rfl, fun A => st_new hb hm (by omega) hh (by omega), by omega, hb⟩
end Go.Proofs.YtpcnoiigbmiejaaDoor.ist
