/- Several texts in one: Lib, Basic, Game, MapR, Str, Sl, Tab, Fm, FmS, FmP, FmQ, FmT, FmN, Flow, Chain, Cw, Bij, Sat, Key, Df. -/
import Derived.WalkKit
import Derived.ProofKit
import Derived.OpenShut
import Derived.Lib.Hide
import Derived.Laws.AppendOwn
import Derived.Laws.OwnMore
import Derived.WalkSmall
import Derived.Deep.AppendLies
import Derived.Deep.RegionLaw
import Derived.Laws.AppendOwnNone
import Derived.Test.YtpcnoiigbmiejaaDoorRows
import Derived.Maps.Own
import Derived.Maps.OwnOps
import Derived.LaidEqlPtr
import Derived.DeepKeys3
import Derived.RegionTactic
import Derived.ChangeAlike
import Derived.Deep.Quiet
import Derived.BigQuiet
import Derived.Deep.RegionHeld3
import Derived.Laws.Concat
import Derived.WalkSpells
/- General words of this seat: slices of integers as lists, their reading and their growth. No program in sight. -/
namespace Go.Proofs.YtpcnoiigbmiejaaDoor.lib
set_option linter.unusedVariables false
set_option linter.unusedSimpArgs false
open Go.RowKit

/-- the integers as cells -/
def ivs (l : List Int) : List Value := l.map (Value.int .i64)
theorem ivs_length (l : List Int) : (ivs l).length = l.length := by simp [ivs]
theorem ivs_append (l m : List Int) : ivs (l ++ m) = ivs l ++ ivs m := by simp [ivs]
theorem ivs_get (l : List Int) (i : Nat) (h : i < l.length) : (ivs l)[i]? = some (.int .i64 (l.getD i 0)) := by
  simp [ivs, List.getElem?_map, h, List.getD_eq_getElem?_getD]

/-- v owns the list l of integers (element type T) in blocks from B on -/
def OwnI (T : TypeId) (w : World) (B : Nat) (v : Value) (l : List Int) : Prop := w.ownsRow B T 1 v l.length (ivs l)

/-- v is a slice that reads as l -/
def Reads (w : World) (v : Value) (l : List Int) : Prop :=
  ∃ ao cap, v = .slice ao l.length cap ∧ (l = [] ∨ ∃ b off, ao = some ⟨b, off, none⟩ ∧ ∀ i, i < l.length → w.cell? ⟨b, off + i, none⟩ = some (.int .i64 (l.getD i 0))) ∧ (ao = none → l.length = 0 ∧ cap = 0)

theorem OwnI.nil (T : TypeId) (w : World) (B : Nat) : OwnI T w B (.slice none 0 0) [] := World.ownsRow_nil _ _ _ _

theorem OwnI.reads {T : TypeId} {w : World} {B : Nat} {v : Value} {l : List Int} (h : OwnI T w B v l) : Reads w v l := by
  have h0 := h
  rcases h.2 with ⟨rfl, hn⟩ | ⟨g, cap, cur, rfl, _⟩
  · exact ⟨none, 0, by rw [hn], .inl (List.length_eq_zero_iff.1 hn), fun _ => ⟨hn, rfl⟩⟩
  · refine ⟨_, _, rfl, .inr ⟨g, 0, rfl, fun i hi => ?_⟩, fun h => by cases h⟩
    have := h0.cellAt i (by omega)
    rw [Nat.zero_add, this, ivs_get l i hi]

theorem OwnI.mono {T : TypeId} {w : World} {B B' : Nat} {v : Value} {l : List Int} (h : OwnI T w B v l) (hB : B' ≤ B) : OwnI T w B' v l := by
  refine ⟨h.1, ?_⟩
  rcases h.2 with hn | ⟨g, cap, cur, hv, hb, r⟩
  · exact .inl hn
  · exact .inr ⟨g, cap, cur, hv, by omega, r⟩

theorem OwnI.below {T : TypeId} {w w' : World} {B C : Nat} {v : Value} {l : List Int} (h : OwnI T w B v l) (hb : Below C w w') (hC : w.heap.size ≤ C) : OwnI T w' B v l := by
  refine ⟨h.1, ?_⟩
  rcases h.2 with hn | ⟨g, cap, cur, hv, hg, hh, r⟩
  · exact .inl hn
  · have := (Array.getElem?_eq_some_iff.1 hh).1
    exact .inr ⟨g, cap, cur, hv, hg, by rw [hb.block g (by omega)]; exact hh, r⟩

theorem Reads.below {w w' : World} {C : Nat} {v : Value} {l : List Int} (h : Reads w v l) (hb : Below C w w') (hC : w.heap.size ≤ C) : Reads w' v l := by
  obtain ⟨ao, cap, hv, h, hnn⟩ := h
  refine ⟨ao, cap, hv, ?_, hnn⟩
  rcases h with h | ⟨b, off, ha, hc⟩
  · exact .inl h
  · refine .inr ⟨b, off, ha, fun i hi => ?_⟩
    have hx := hc i hi
    have hlt := World.block_lt_of_cell? w _ hx
    rw [hb.cell (p := ⟨b, off + i, none⟩) (by show b < C; have : b < w.heap.size := hlt; omega)]
    exact hx

/-- a slice that is nil or begins at a place -/
theorem Reads.len {w : World} {v : Value} {l : List Int} (h : Reads w v l) : ∃ ao cap, v = .slice ao l.length cap := by
  obtain ⟨ao, cap, hv, _⟩ := h; exact ⟨ao, cap, hv⟩

theorem below_of_grown {B : Nat} {w w' : World} {row : Option Nat} (hg : w.grownBy w' row) (hB : B ≤ w.heap.size) (hr : ∀ k, row = some k → B ≤ k) : Below B w w' :=
  (Below.refl B w).grown hg hB hr

/-- what an append to v leaves: at most v's own row is written; the new value lies in that row or in a new one -/
structure Grew (w w' : World) (v v' : Value) : Prop where
  grown : w.grownBy w' v.ownBlock
  blk : ∀ g, v'.ownBlock = some g → v.ownBlock = some g ∨ w.heap.size ≤ g

/-- two values lie in different rows -/
def Apart (v v2 : Value) : Prop := ∀ k, v.ownBlock = some k → v2.ownBlock ≠ some k

theorem Grew.below {w w' : World} {v v' : Value} {B : Nat} {e : TypeId} {n : Nat} {xs : List Value} (h : Grew w w' v v') (hv : w.ownsRow B e 1 v n xs) (hB : B ≤ w.heap.size) : Below B w w' :=
  below_of_grown h.grown hB fun k hk => (hv.lt k hk).1

theorem Grew.keep {w w' : World} {v v' : Value} {B2 : Nat} {e : TypeId} {v2 : Value} {n : Nat} {xs : List Value} (h : Grew w w' v v') (h2 : w.ownsRow B2 e 1 v2 n xs) (ha : Apart v v2) :
    w'.ownsRow B2 e 1 v2 n xs ∧ Apart v' v2 := by
  refine ⟨h2.kept h.grown ?_, fun k hk h2k => ?_⟩
  · cases hv : v.ownBlock with
    | none => cases h2b : v2.ownBlock <;> simp
    | some k => exact .inr (fun e => ha k hv e)
  · rcases h.blk k hk with hb | hb
    · exact ha k hb h2k
    · have := (h2.lt k h2k).2; omega

theorem Apart.symm {v v2 : Value} (h : Apart v v2) : Apart v2 v := fun k h2 h1 => h k h1 h2
theorem Apart.of_own {w w' : World} {B : Nat} {T T2 : TypeId} {v v2 : Value} {l l2 : List Int} (h : OwnI T w' w.heap.size v l) (h2 : OwnI T2 w B v2 l2) : Apart v v2 :=
  fun k hk h2k => by have := (World.ownsRow.lt h k hk).1; have := (World.ownsRow.lt h2 k h2k).2; omega


/-! owned rows at a written-out place -/
theorem OwnI.cell {T : TypeId} {w : World} {B g n cap : Nat} {l : List Int} (h : OwnI T w B (.slice (some ⟨g, 0, none⟩) n cap) l) (k : Nat) (hk : k < l.length) : w.cell? ⟨g, k, none⟩ = some (.int .i64 (l.getD k 0)) := by
  have hn : n = l.length := by
    rcases h.2 with ⟨h', _⟩ | ⟨g', cap', cur, h', _⟩
    · simp at h'
    · simp only [Value.slice.injEq] at h'; exact h'.2.1
  subst hn
  rw [World.ownsRow.cellAt h k (by omega), ivs_get l k hk]
theorem OwnI.free {T : TypeId} {w : World} {B g n cap : Nat} {l : List Int} (h : OwnI T w B (.slice (some ⟨g, 0, none⟩) n cap) l) (k : Nat) : w.frozen? ⟨g, k, none⟩ = false := by
  have hn : n = l.length := by
    rcases h.2 with ⟨h', _⟩ | ⟨g', cap', cur, h', _⟩
    · simp at h'
    · simp only [Value.slice.injEq] at h'; exact h'.2.1
  subst hn
  exact World.ownsRow.frozenAt h k
theorem OwnI.set {T : TypeId} {w : World} {B g n cap : Nat} {l : List Int} (h : OwnI T w B (.slice (some ⟨g, 0, none⟩) n cap) l) (k : Nat) (x : Int) :
    OwnI T (w.setCell ⟨g, k, none⟩ (.int .i64 x)) B (.slice (some ⟨g, 0, none⟩) n cap) (l.set k x) := by
  have hn : n = l.length := by
    rcases h.2 with ⟨h', _⟩ | ⟨g', cap', cur, h', _⟩
    · simp at h'
    · simp only [Value.slice.injEq] at h'; exact h'.2.1
  subst hn
  have := (World.ownsRow.stored h k (.int .i64 x)).1
  unfold OwnI
  rw [List.length_set]
  have e : (ivs l).set k (.int .i64 x) = ivs (l.set k x) := by simp [ivs, List.map_set]
  rw [← e]; exact this
theorem OwnI.ge {T : TypeId} {w : World} {B g n cap : Nat} {l : List Int} (h : OwnI T w B (.slice (some ⟨g, 0, none⟩) n cap) l) : B ≤ g ∧ g < w.heap.size := World.ownsRow.lt h g rfl
theorem OwnI.len {T : TypeId} {w : World} {B g n cap : Nat} {l : List Int} (h : OwnI T w B (.slice (some ⟨g, 0, none⟩) n cap) l) : n = l.length := by
  rcases h.2 with ⟨h', _⟩ | ⟨g', cap', cur, h', _⟩
  · simp at h'
  · simp only [Value.slice.injEq] at h'; exact h'.2.1
theorem OwnI.shape {T : TypeId} {w : World} {B : Nat} {v : Value} {l : List Int} (h : OwnI T w B v l) : (v = .slice none 0 0 ∧ l = []) ∨ ∃ g cap, v = .slice (some ⟨g, 0, none⟩) l.length cap := by
  rcases h.2 with ⟨h', hn⟩ | ⟨g', cap', cur, h', _⟩
  · exact .inl ⟨h', List.length_eq_zero_iff.1 hn⟩
  · exact .inr ⟨g', cap', h'⟩
theorem OwnI.made {T : TypeId} {w : World} {B : Nat} {v : Value} {n : Nat} (h : w.ownsRow B T 1 v n (madeCells #[Value.int .i64 0] n).toList) : OwnI T w B v (List.replicate n 0) := by
  have e : (madeCells #[Value.int .i64 0] n).toList = ivs (List.replicate n 0) := by simp [ivs, toList_madeCells_one]
  unfold OwnI
  rw [List.length_replicate, ← e]; exact h

theorem copy_step (l : List Int) (n k : Nat) (hn : n = l.length) (hk : k < n) :
    (l.take k ++ List.replicate (n - k) 0).set k (l.getD k 0) = l.take (k+1) ++ List.replicate (n - (k+1)) 0 ∧ k < (l.take k ++ List.replicate (n - k) (0:Int)).length := by
  subst hn
  have hkl : (l.take k).length = k := by simp; omega
  refine ⟨?_, by simp; omega⟩
  rw [List.set_append_right (h := by omega), hkl, Nat.sub_self, show l.length - k = (l.length - (k+1)) + 1 from by omega, List.replicate_succ, List.take_succ_eq_append_getElem hk, List.append_assoc]
  simp [List.getD_eq_getElem?_getD, List.getElem?_eq_getElem hk]

theorem take_step (l m : List Int) (k : Nat) (hl : k < l.length) (hm : k < m.length) (h : l.take k = m.take k) (hx : l.getD k 0 = m.getD k 0) : l.take (k+1) = m.take (k+1) := by
  rw [List.take_succ_eq_append_getElem hl, List.take_succ_eq_append_getElem hm, h]
  simp only [List.getD_eq_getElem?_getD, List.getElem?_eq_getElem hl, List.getElem?_eq_getElem hm, Option.getD_some] at hx
  rw [hx]
theorem eq_of_take (l m : List Int) (h : l.length = m.length) (ht : l.take l.length = m.take l.length) : l = m := by
  rw [List.take_of_length_le (Nat.le_refl _), List.take_of_length_le (by omega)] at ht; exact ht
theorem ne_of_getD (l m : List Int) (k : Nat) (hx : ¬ l.getD k 0 = m.getD k 0) : ¬ l = m := fun h => hx (by rw [h])

/-- the marks that the exact laws write: k, k + 1, .. -/
def marks (k : Int) (n : Nat) : List Int := (List.range n).map fun i : Nat => k + (i : Int)
theorem marks_length (k : Int) (n : Nat) : (marks k n).length = n := by simp [marks]
theorem marks_get (k : Int) (n i : Nat) (h : i < n) : (marks k n).getD i 0 = k + i := by simp [marks, List.getD_eq_getElem?_getD, h]
theorem marks_step (l : List Int) (k : Int) (j : Nat) (hj : j < l.length) : (marks k j ++ l.drop j).set j (k + j) = marks k (j + 1) ++ l.drop (j + 1) := by
  rw [List.set_append_right (h := by simp [marks_length])]
  rw [marks_length, Nat.sub_self, List.drop_eq_getElem_cons hj, List.set_cons_zero]
  simp [marks, List.range_succ]
theorem marks_full (l : List Int) (k : Int) : marks k l.length ++ l.drop l.length = marks k l.length := by simp

/-- the exact laws' helper on marks: the new count, or -1 -/
def held (l : List Int) (k : Int) : Int := if l = marks k l.length then k + l.length else -1
theorem held_marks (k : Int) (n : Nat) : held (marks k n) k = k + n := by simp [held, marks_length]

theorem OwnI.setGrown {T : TypeId} {w : World} {B g n cap : Nat} {l : List Int} (h : OwnI T w B (.slice (some ⟨g, 0, none⟩) n cap) l) (k : Nat) (x : Int) : w.grownBy (w.setCell ⟨g, k, none⟩ (.int .i64 x)) (some g) := by
  have hn := h.len
  subst hn
  exact (World.ownsRow.stored h k (.int .i64 x)).2
theorem grown_trans {w w1 w2 : World} {r : Option Nat} (p : w.grownBy w1 r) (q : w1.grownBy w2 r) : w.grownBy w2 r :=
  ⟨q.os.trans p.os, q.tape.trans p.tape, q.output.trans p.output, Nat.le_trans p.size q.size, fun k hk hne => (q.block k (Nat.lt_of_lt_of_le hk p.size) hne).trans (p.block k hk hne)⟩

/-- append to a slice of the call's own, of what lies at a place; the law of the operation alone -/
theorem wp_appL {P : Program} (w : World) {o : Oper} {a : Act} {K : Act → World → Prop} {Q : Exit → Act → World → Prop}
    (s x : Operand) (t : TypeId) (hop : o.op = Op.call { callee := Callee.builtin Builtin.append, args := #[s, x], argTypes := #[t, t] })
    (base : Nat) (e : TypeId) (z : Value) (bytes : Nat) (h1 : P.underlying t = some (.slice e)) (hinfo : (P.info? e).map (fun i => (i.zero, i.size, i.bytes)) = some (some z, 1, bytes)) (hz : z.cells.size = 1) (b2 : bytes ≤ 24)
    (v : Value) (n : Nat) (xs : List Value) (hs : a.eval s = v) (hown : w.ownsRow base e 1 v n xs)
    (ad : Addr) (m c : Nat) (news : List Value) (hx : a.eval x = .slice (some ad) m c) (hl : news.length = m) (hnews : ∀ j u, news[j]? = some u → w.cell? (ad.add j) = some u) (hu : ∀ u ∈ news, u.oneCell' = true)
    (hm : 0 < m) (b1 : n + m ≤ 4398046511104) (b4 : base ≤ w.heap.size)
    (h : ∀ g cap w', w'.ownsRow base e 1 (.slice (some ⟨g, 0, none⟩) (n + m) cap) (n + m) (xs ++ news) → Grew w w' v (.slice (some ⟨g, 0, none⟩) (n + m) cap) → K (a.put o.dst (.slice (some ⟨g, 0, none⟩) (n + m) cap)) w') :
    o.wp P a w K Q := by
  obtain ⟨i, hi, hz0, hz1, hz2⟩ := info_parts hinfo
  refine wp_append_lies w s x t hop base e i z 1 bytes h1 hi hz0 hz1 hz2 hz (by decide) v n xs hs hown ad m c news hx (by omega) hnews hu hm (by unfold maxLen; omega) ?_ b4 w.heap.size rfl ?_
  · have : (n + m) * bytes ≤ 4398046511104 * 24 := Nat.mul_le_mul b1 b2
    omega
  · intro g cap w' ho hg hb hlt
    refine h g cap w' ho ⟨hg, fun g' hg' => ?_⟩
    simp [Value.ownBlock] at hg'
    subst hg'
    rcases hb with hb | hb
    · exact .inl hb
    · exact .inr (by omega)

theorem Grew.of_alloc {w w' : World} {o : Obj} {v v' : Value} (h : Grew (w.alloc o) w' v v') : Grew w w' v v' :=
  ⟨grown_trans (World.grownBy_alloc _ _ _) h.grown, fun g hg => (h.blk g hg).imp id (fun hb => Nat.le_trans (by simp) hb)⟩

/-- append of one value to a slice of the call's own: what the walk meets (the value laid in a block of its own first) -/
theorem wp_app1 {P : Program} (w : World) {o : Oper} {a : Act} {K : Act → World → Prop} {Q : Exit → Act → World → Prop}
    (s x : Operand) (t : TypeId) (hop : o.op = Op.call { callee := Callee.builtin Builtin.append, args := #[s, x], argTypes := #[t, t] })
    (base : Nat) (e : TypeId) (z : Value) (bytes : Nat) (h1 : P.underlying t = some (.slice e)) (hinfo : (P.info? e).map (fun i => (i.zero, i.size, i.bytes)) = some (some z, 1, bytes)) (hz : z.cells.size = 1) (b2 : bytes ≤ 24)
    (v : Value) (n : Nat) (xs : List Value) (u : Value) (hs : a.eval s = v) (hown : w.ownsRow base e 1 v n xs)
    (H : Nat) (hH : w.heap.size = H) (hx : a.eval x = .slice (some ⟨H, 0, none⟩) 1 1) (hu : u.oneCell' = true) (b1 : n + 1 ≤ 4398046511104) (b4 : base ≤ H)
    (h : ∀ g cap w', w'.ownsRow base e 1 (.slice (some ⟨g, 0, none⟩) (n + 1) cap) (n + 1) (xs ++ [u]) → Grew w w' v (.slice (some ⟨g, 0, none⟩) (n + 1) cap) → K (a.put o.dst (.slice (some ⟨g, 0, none⟩) (n + 1) cap)) w') :
    o.wp P a (w.alloc (.cells #[u] e)) K Q := by
  subst hH
  refine wp_appL _ s x t hop base e z bytes h1 hinfo hz b2 v n xs hs (hown.alloc _) ⟨w.heap.size, 0, none⟩ 1 1 [u] hx rfl ?_ ?_ (by decide) b1 (Nat.le_trans b4 (by simp)) (fun g cap w' ho hg => h g cap w' ho hg.of_alloc)
  · intro j u' hj
    match j, hj with
    | 0, hj => simp at hj; subst hj; simp [Addr.add]
  · intro u' h'; simp at h'; subst h'; exact hu

theorem wpList_app1 {P : Program} (w : World) {ops : Array Oper} {rest : List Oper} {o : Oper} {a : Act} {Q : Exit → Act → World → Prop}
    (hg : o.guard = none) (s x : Operand) (t : TypeId) (hop : o.op = Op.call { callee := Callee.builtin Builtin.append, args := #[s, x], argTypes := #[t, t] })
    (base : Nat) (e : TypeId) (z : Value) (bytes : Nat) (h1 : P.underlying t = some (.slice e)) (hinfo : (P.info? e).map (fun i => (i.zero, i.size, i.bytes)) = some (some z, 1, bytes)) (hz : z.cells.size = 1) (b2 : bytes ≤ 24)
    (v : Value) (n : Nat) (xs : List Value) (u : Value) (hs : a.eval s = v) (hown : w.ownsRow base e 1 v n xs)
    (H : Nat) (hH : w.heap.size = H) (hx : a.eval x = .slice (some ⟨H, 0, none⟩) 1 1) (hu : u.oneCell' = true) (b1 : n + 1 ≤ 4398046511104) (b4 : base ≤ H)
    (h : ∀ g cap w', w'.ownsRow base e 1 (.slice (some ⟨g, 0, none⟩) (n + 1) cap) (n + 1) (xs ++ [u]) → Grew w w' v (.slice (some ⟨g, 0, none⟩) (n + 1) cap) → wpList P ops Q rest (a.put o.dst (.slice (some ⟨g, 0, none⟩) (n + 1) cap)) w') :
    wpList P ops Q (o :: rest) a (w.alloc (.cells #[u] e)) :=
  wpList_plain hg fun _ hK => wp_app1 w s x t hop base e z bytes h1 hinfo hz b2 v n xs u hs hown H hH hx hu b1 b4 fun g cap w' a b => hK _ _ (h g cap w' a b)

theorem step_app1 {P : Program} (w : World) {ops : Array Oper} {o : Oper} {a : Act} {K : Act → World → Prop} {Q : Exit → Act → World → Prop} {E : Prop}
    (hg : o.guard = none) (s x : Operand) (t : TypeId) (hop : o.op = Op.call { callee := Callee.builtin Builtin.append, args := #[s, x], argTypes := #[t, t] })
    (base : Nat) (e : TypeId) (z : Value) (bytes : Nat) (h1 : P.underlying t = some (.slice e)) (hinfo : (P.info? e).map (fun i => (i.zero, i.size, i.bytes)) = some (some z, 1, bytes)) (hz : z.cells.size = 1) (b2 : bytes ≤ 24)
    (v : Value) (n : Nat) (xs : List Value) (u : Value) (hs : a.eval s = v) (hown : w.ownsRow base e 1 v n xs)
    (H : Nat) (hH : w.heap.size = H) (hx : a.eval x = .slice (some ⟨H, 0, none⟩) 1 1) (hu : u.oneCell' = true) (b1 : n + 1 ≤ 4398046511104) (b4 : base ≤ H)
    (h : ∀ g cap w', w'.ownsRow base e 1 (.slice (some ⟨g, 0, none⟩) (n + 1) cap) (n + 1) (xs ++ [u]) → Grew w w' v (.slice (some ⟨g, 0, none⟩) (n + 1) cap) → K (a.put o.dst (.slice (some ⟨g, 0, none⟩) (n + 1) cap)) w') :
    if Region.wanted o (yielded ops a.tmps) = true then Oper.wp P o a (w.alloc (.cells #[u] e)) K Q else E := by
  have hw : Region.wanted o (yielded ops a.tmps) = true := by simp [Region.wanted, hg]
  rw [if_pos hw]
  exact wp_app1 w s x t hop base e z bytes h1 hinfo hz b2 v n xs u hs hown H hH hx hu b1 b4 h

/-- append of a whole slice that reads as l -/
theorem wpList_appAll {P : Program} (w : World) {ops : Array Oper} {rest : List Oper} {o : Oper} {a : Act} {Q : Exit → Act → World → Prop}
    (hg : o.guard = none) (s x : Operand) (t : TypeId) (hop : o.op = Op.call { callee := Callee.builtin Builtin.append, args := #[s, x], argTypes := #[t, t] })
    (base : Nat) (e : TypeId) (h1 : P.underlying t = some (.slice e)) (hinfo : (P.info? e).map (fun i => (i.zero, i.size, i.bytes)) = some (some (.int .i64 0), 1, 8))
    (v : Value) (xs l : List Int) (hs : a.eval s = v) (hown : OwnI e w base v xs) (v2 : Value) (hx : a.eval x = v2) (hr : Reads w v2 l)
    (b1 : xs.length + l.length ≤ 4398046511104) (b4 : base ≤ w.heap.size)
    (h : ∀ v' w', OwnI e w' base v' (xs ++ l) → w.grownBy w' v.ownBlock → (∀ g, v'.ownBlock = some g → base ≤ g) → wpList P ops Q rest (a.put o.dst v') w') :
    wpList P ops Q (o :: rest) a w := by
  obtain ⟨i, hi, hz0, hz1, hz2⟩ := info_parts hinfo
  obtain ⟨ao, cap, rfl, hr, hcap⟩ := hr
  cases ao with
  | none =>
    have hl0 := hcap rfl
    have hl : l = [] := List.length_eq_zero_iff.1 hl0.1
    subst hl
    refine wpList_append_own_none hg s x t hop base e i 1 h1 hi v xs.length (ivs xs) hs hown (by rw [hx]; simp [hl0.2]) ?_
    exact h v w (by simpa using hown) (World.grownBy.refl _ _) (fun g hg => (hown.lt g hg).1)
  | some ad =>
    refine wpList_append_own w hg s x t hop base e i (.int .i64 0) 1 8 h1 hi hz0 hz1 hz2 rfl (by decide) v xs.length (ivs xs) hs hown ad l.length cap (ivs l) hx (by simp [ivs]) ?_ ?_ (by unfold maxLen; omega) (by omega) b4 ?_
    · intro j u hj
      rcases hr with rfl | ⟨b, off, ha, hc⟩
      · simp [ivs] at hj
      · cases ha
        have hjl : j < l.length := by
          have := (List.getElem?_eq_some_iff.1 hj).1; simpa [ivs] using this
        rw [ivs_get l j hjl] at hj
        cases hj
        have := hc j hjl
        rw [show (⟨b, off, none⟩ : Addr).add j = ⟨b, off + j, none⟩ from by simp [Addr.add]]
        exact this
    · intro u hu
      simp only [ivs, List.mem_map] at hu
      obtain ⟨q, _, rfl⟩ := hu
      rfl
    · intro v' w' ho hg' _
      have ho' : OwnI e w' base v' (xs ++ l) := by unfold OwnI; rw [List.length_append, ivs_append]; exact ho
      exact h v' w' ho' hg' (fun g hg => (ho'.lt g hg).1)

/-- two lists of the call's own, in different rows -/
def Two (T : TypeId) (w : World) (B : Nat) (v1 v2 : Value) (l1 l2 : List Int) : Prop := OwnI T w B v1 l1 ∧ OwnI T w B v2 l2 ∧ Apart v1 v2
theorem Two.left {T : TypeId} {w w' : World} {B : Nat} {v1 v2 v1' : Value} {l1 l2 l1' : List Int} (h : Two T w B v1 v2 l1 l2) (g : Grew w w' v1 v1') (o : OwnI T w' B v1' l1') : Two T w' B v1' v2 l1' l2 :=
  have k := g.keep h.2.1 h.2.2
  ⟨o, k.1, k.2⟩
theorem Two.right {T : TypeId} {w w' : World} {B : Nat} {v1 v2 v2' : Value} {l1 l2 l2' : List Int} (h : Two T w B v1 v2 l1 l2) (g : Grew w w' v2 v2') (o : OwnI T w' B v2' l2') : Two T w' B v1 v2' l1 l2' :=
  have k := g.keep h.1 h.2.2.symm
  ⟨k.1, o, k.2.symm⟩

theorem OwnI.keepMark {T : TypeId} {w w' : World} {B : Nat} {v v2 : Value} {l : List Int} (h : OwnI T w B v l) (hg : w.grownBy w' v2.ownBlock) (ha : Apart v v2) : OwnI T w' B v l := by
  refine World.ownsRow.kept h hg ?_
  cases hv : v.ownBlock with
  | none => exact .inl rfl
  | some k => exact .inr (fun e => ha k hv e.symm)
end Go.Proofs.YtpcnoiigbmiejaaDoor.lib

/- l1In: the reference's test of bounds. -/
namespace Go.Proofs.YtpcnoiigbmiejaaDoor.basic
set_option linter.unusedVariables false
set_option linter.unusedSimpArgs false
open Go.ChangeShapes Go.WideShapes Go.ChangeAt Go.RowKit
open Go.Proofs.YtpcnoiigbmiejaaDoor.lib

/-- n lies between lo and hi -/
def inB (n lo hi : Int) : Bool := decide (lo ≤ n ∧ n ≤ hi)
theorem inB_true {n lo hi : Int} (h1 : lo ≤ n) (h2 : n ≤ hi) : inB n lo hi = true := decide_eq_true ⟨h1, h2⟩
theorem inB_false {n lo hi : Int} (h : ¬ (lo ≤ n ∧ n ≤ hi)) : inB n lo hi = false := decide_eq_false h
theorem l1In_any (n lo hi : Int) (w : World) :
    Calls Tryd.prog 67 #[.int .i64 n, .int .i64 lo, .int .i64 hi] w fun e w' => e = .returned (.bool (inB n lo hi)) ∧ w = w' := by
  by_cases h1 : lo ≤ n
  · by_cases h2 : n ≤ hi
    · have HE : Hid (inB n lo hi = true) := inB_true h1 h2
      go_enter Tryd.func67, Tryd.ntmps67
      go_wp2
      go_ret
      exact ⟨by rw [HE.out]; rfl, rfl⟩
    · have HE : Hid (inB n lo hi = false) := inB_false (by omega)
      go_enter Tryd.func67, Tryd.ntmps67
      go_wp2
      go_ret
      exact ⟨by rw [HE.out]; rfl, rfl⟩
  · have HE : Hid (inB n lo hi = false) := inB_false (by omega)
    go_enter Tryd.func67, Tryd.ntmps67
    go_wp2
    go_ret
    exact ⟨by rw [HE.out]; rfl, rfl⟩
end Go.Proofs.YtpcnoiigbmiejaaDoor.basic

/- Games of two players in plain words: who wins, on sums and on products. No program in sight. -/
namespace Go.Proofs.YtpcnoiigbmiejaaDoor.game
set_option linter.unusedVariables false
set_option linter.unusedSimpArgs false

/-- a structure by its bits -/
structure Gr where
  n : Nat
  S : Nat → Bool
  R : Nat → Nat → Bool
/-- pairs of elements: which one lies under a pebble in either structure -/
abbrev Pos := List (Nat × Nat)
/-- the pairs are in the same way -/
def Gway (A B : Gr) (P : Pos) : Prop :=
  (∀ p, p ∈ P → p.1 < A.n ∧ p.2 < B.n ∧ A.S p.1 = B.S p.2) ∧ ∀ p q, p ∈ P → q ∈ P → (p.1 = q.1 ↔ p.2 = q.2) ∧ A.R p.1 q.1 = B.R p.2 q.2
/-- the second player wins so many rounds -/
def Win (A B : Gr) : Nat → Pos → Prop
  | 0, P => Gway A B P
  | r + 1, P => Gway A B P ∧ (∀ x, x < A.n → ∃ y, y < B.n ∧ Win A B r ((x, y) :: P)) ∧ ∀ y, y < B.n → ∃ x, x < A.n ∧ Win A B r ((x, y) :: P)
theorem Win.way {A B : Gr} {r : Nat} {P : Pos} (h : Win A B r P) : Gway A B P := by
  cases r with
  | zero => exact h
  | succ r => exact h.1
theorem Gway.sub {A B : Gr} {P Q : Pos} (h : Gway A B P) (hs : ∀ p, p ∈ Q → p ∈ P) : Gway A B Q :=
  ⟨fun p hp => h.1 p (hs p hp), fun p q hp hq => h.2 p q (hs p hp) (hs q hq)⟩
/-- only which pairs there are counts -/
theorem Win.sub {A B : Gr} : ∀ {r : Nat} {P Q : Pos}, Win A B r P → (∀ p, p ∈ Q → p ∈ P) → Win A B r Q
  | 0, _, _, h, hs => Gway.sub h hs
  | r + 1, P, Q, h, hs => by
    have hc : ∀ p (a : Nat × Nat), p ∈ a :: Q → p ∈ a :: P := fun p a hp => by
      rcases List.mem_cons.1 hp with e | hp
      · exact e ▸ List.mem_cons_self
      · exact List.mem_cons_of_mem _ (hs p hp)
    refine ⟨Gway.sub h.1 hs, fun x hx => ?_, fun y hy => ?_⟩
    · obtain ⟨y, hy, hw⟩ := h.2.1 x hx
      exact ⟨y, hy, hw.sub fun p hp => hc p _ hp⟩
    · obtain ⟨x, hx, hw⟩ := h.2.2 y hy
      exact ⟨x, hx, hw.sub fun p hp => hc p _ hp⟩
/-- fewer rounds -/
theorem Win.less {A B : Gr} : ∀ {r : Nat} {P : Pos}, Win A B (r + 1) P → Win A B r P
  | 0, _, h => h.1
  | r + 1, P, h => ⟨h.1, fun x hx => by obtain ⟨y, hy, hw⟩ := h.2.1 x hx; exact ⟨y, hy, hw.less⟩, fun y hy => by obtain ⟨x, hx, hw⟩ := h.2.2 y hy; exact ⟨x, hx, hw.less⟩⟩
/-- a structure and itself -/
theorem Win.refl (A : Gr) : ∀ (r : Nat) {P : Pos}, (∀ p, p ∈ P → p.1 < A.n ∧ p.1 = p.2) → Win A A r P
  | 0, P, h => by
    refine ⟨fun p hp => ?_, fun p q hp hq => ?_⟩
    · obtain ⟨h1, h2⟩ := h p hp
      rw [← h2]; exact ⟨h1, h1, rfl⟩
    · rw [← (h p hp).2, ← (h q hq).2]; exact ⟨Iff.rfl, rfl⟩
  | r + 1, P, h => by
    have hc : ∀ x, x < A.n → ∀ p, p ∈ (x, x) :: P → p.1 < A.n ∧ p.1 = p.2 := fun x hx p hp => by
      rcases List.mem_cons.1 hp with rfl | hp
      · exact ⟨hx, rfl⟩
      · exact h p hp
    exact ⟨(Win.refl A 0 h : Gway A A P), fun x hx => ⟨x, hx, Win.refl A r (hc x hx)⟩, fun x hx => ⟨x, hx, Win.refl A r (hc x hx)⟩⟩
/-- turned -/
def turn (P : Pos) : Pos := P.map fun p => (p.2, p.1)
theorem mem_turn {P : Pos} {p : Nat × Nat} : p ∈ turn P ↔ (p.2, p.1) ∈ P := by
  unfold turn
  rw [List.mem_map]
  constructor
  · rintro ⟨q, hq, rfl⟩; exact hq
  · intro h; exact ⟨_, h, rfl⟩
theorem Gway.turn {A B : Gr} {P : Pos} (h : Gway A B P) : Gway B A (turn P) := by
  refine ⟨fun p hp => ?_, fun p q hp hq => ?_⟩
  · obtain ⟨h1, h2, h3⟩ := h.1 _ (mem_turn.1 hp)
    exact ⟨h2, h1, h3.symm⟩
  · obtain ⟨h1, h2⟩ := h.2 _ _ (mem_turn.1 hp) (mem_turn.1 hq)
    exact ⟨h1.symm, h2.symm⟩
theorem Win.turn {A B : Gr} : ∀ {r : Nat} {P : Pos}, Win A B r P → Win B A r (turn P)
  | 0, _, h => Gway.turn h
  | r + 1, P, h => by
    refine ⟨Gway.turn h.1, fun y hy => ?_, fun x hx => ?_⟩
    · obtain ⟨x, hx, hw⟩ := h.2.2 y hy
      exact ⟨x, hx, hw.turn⟩
    · obtain ⟨y, hy, hw⟩ := h.2.1 x hx
      exact ⟨y, hy, hw.turn⟩

/-- side by side or one behind the other -/
def sumG (o : Bool) (A C : Gr) : Gr where
  n := A.n + C.n
  S x := if x < A.n then A.S x else C.S (x - A.n)
  R x y := if x < A.n then (if y < A.n then A.R x y else o) else (if y < A.n then false else C.R (x - A.n) (y - A.n))
theorem sumG_l {o : Bool} {A C : Gr} {x y : Nat} (hx : x < A.n) (hy : y < A.n) : (sumG o A C).R x y = A.R x y := by simp [sumG, hx, hy]
theorem sumG_r {o : Bool} {A C : Gr} {x y : Nat} : (sumG o A C).R (A.n + x) (A.n + y) = C.R x y := by
  unfold sumG
  simp only
  rw [if_neg (by omega), if_neg (by omega), Nat.add_sub_cancel_left, Nat.add_sub_cancel_left]
theorem sumG_lr {o : Bool} {A C : Gr} {x y : Nat} (hx : x < A.n) : (sumG o A C).R x (A.n + y) = o := by
  unfold sumG
  simp only
  rw [if_pos hx, if_neg (by omega)]
theorem sumG_rl {o : Bool} {A C : Gr} {x y : Nat} (hy : y < A.n) : (sumG o A C).R (A.n + x) y = false := by
  unfold sumG
  simp only
  rw [if_neg (by omega), if_pos hy]
/-- each pair lies in one part -/
def Parts (A B : Gr) (P1 P2 P : Pos) : Prop := ∀ p, p ∈ P → p ∈ P1 ∨ ∃ q, q ∈ P2 ∧ p = (A.n + q.1, B.n + q.2)
theorem Parts.left {A B : Gr} {P1 P2 P : Pos} (h : Parts A B P1 P2 P) (a : Nat × Nat) : Parts A B (a :: P1) P2 (a :: P) := fun p hp => by
  rcases List.mem_cons.1 hp with rfl | hp
  · exact .inl List.mem_cons_self
  · exact (h p hp).imp (List.mem_cons_of_mem _) id
theorem Parts.right {A B : Gr} {P1 P2 P : Pos} (h : Parts A B P1 P2 P) (a : Nat × Nat) : Parts A B P1 (a :: P2) ((A.n + a.1, B.n + a.2) :: P) := fun p hp => by
  rcases List.mem_cons.1 hp with rfl | hp
  · exact .inr ⟨a, List.mem_cons_self, rfl⟩
  · refine (h p hp).imp id ?_
    rintro ⟨q, hq, e⟩
    exact ⟨q, List.mem_cons_of_mem _ hq, e⟩
theorem way_sum {o : Bool} {A B C D : Gr} {P1 P2 P : Pos} (hp : Parts A B P1 P2 P) (h1 : Gway A B P1) (h2 : Gway C D P2) : Gway (sumG o A C) (sumG o B D) P := by
  refine ⟨fun p hpP => ?_, fun p q hpP hqP => ?_⟩
  · rcases hp p hpP with hm | ⟨u, hu, rfl⟩
    · obtain ⟨a, b, c⟩ := h1.1 p hm
      refine ⟨?_, ?_, ?_⟩
      · show p.1 < A.n + C.n; omega
      · show p.2 < B.n + D.n; omega
      · simp [sumG, a, b, c]
    · obtain ⟨a, b, c⟩ := h2.1 u hu
      refine ⟨?_, ?_, ?_⟩
      · show A.n + u.1 < A.n + C.n; omega
      · show B.n + u.2 < B.n + D.n; omega
      · unfold sumG
        simp only
        rw [if_neg (by omega), if_neg (by omega), Nat.add_sub_cancel_left, Nat.add_sub_cancel_left, c]
  · rcases hp p hpP with hm | ⟨u, hu, rfl⟩
    · obtain ⟨a, b, _⟩ := h1.1 p hm
      rcases hp q hqP with hn | ⟨v, hv, rfl⟩
      · obtain ⟨a2, b2, _⟩ := h1.1 q hn
        rw [sumG_l a a2, sumG_l b b2]; exact h1.2 p q hm hn
      · rw [sumG_lr a, sumG_lr b]; exact ⟨⟨fun e => by have e : p.1 = A.n + v.1 := e; omega, fun e => by have e : p.2 = B.n + v.2 := e; omega⟩, rfl⟩
    · rcases hp q hqP with hn | ⟨v, hv, rfl⟩
      · obtain ⟨a2, b2, _⟩ := h1.1 q hn
        rw [sumG_rl a2, sumG_rl b2]; exact ⟨⟨fun e => by have e : A.n + u.1 = q.1 := e; omega, fun e => by have e : B.n + u.2 = q.2 := e; omega⟩, rfl⟩
      · rw [sumG_r, sumG_r]
        obtain ⟨c, d⟩ := h2.2 u v hu hv
        exact ⟨⟨fun e => by have e : A.n + u.1 = A.n + v.1 := e; have := c.1 (by omega); show B.n + u.2 = B.n + v.2; omega, fun e => by have e : B.n + u.2 = B.n + v.2 := e; have := c.2 (by omega); show A.n + u.1 = A.n + v.1; omega⟩, d⟩
/-- who wins on the parts wins on the sums -/
theorem win_sum {o : Bool} {A B C D : Gr} : ∀ {r : Nat} {P1 P2 P : Pos}, Parts A B P1 P2 P → Win A B r P1 → Win C D r P2 → Win (sumG o A C) (sumG o B D) r P
  | 0, _, _, _, hp, h1, h2 => way_sum hp h1 h2
  | r + 1, P1, P2, P, hp, h1, h2 => by
    refine ⟨way_sum hp h1.1 h2.1, fun x hx => ?_, fun y hy => ?_⟩
    · have hx : x < A.n + C.n := hx
      by_cases hxa : x < A.n
      · obtain ⟨y, hy, hw⟩ := h1.2.1 x hxa
        exact ⟨y, by show y < B.n + D.n; omega, win_sum (hp.left (x, y)) hw h2.less⟩
      · obtain ⟨y, hy, hw⟩ := h2.2.1 (x - A.n) (by omega)
        refine ⟨B.n + y, by show B.n + y < B.n + D.n; omega, ?_⟩
        have := hp.right (x - A.n, y)
        rw [show A.n + (x - A.n, y).1 = x by show A.n + (x - A.n) = x; omega] at this
        exact win_sum this h1.less hw
    · have hy : y < B.n + D.n := hy
      by_cases hyb : y < B.n
      · obtain ⟨x, hx, hw⟩ := h1.2.2 y hyb
        exact ⟨x, by show x < A.n + C.n; omega, win_sum (hp.left (x, y)) hw h2.less⟩
      · obtain ⟨x, hx, hw⟩ := h2.2.2 (y - B.n) (by omega)
        refine ⟨A.n + x, by show A.n + x < A.n + C.n; omega, ?_⟩
        have := hp.right (x, y - B.n)
        rw [show B.n + (x, y - B.n).2 = y by show B.n + (y - B.n) = y; omega] at this
        exact win_sum this h1.less hw

/-- all pairs of elements -/
def prodG (A C : Gr) : Gr where
  n := A.n * C.n
  S x := A.S (x / C.n) && C.S (x % C.n)
  R x y := A.R (x / C.n) (y / C.n) && C.R (x % C.n) (y % C.n)
theorem pair_div {M x y : Nat} (hy : y < M) : (x * M + y) / M = x ∧ (x * M + y) % M = y := by
  constructor
  · rw [Nat.mul_comm, Nat.mul_add_div (by omega), Nat.div_eq_of_lt hy, Nat.add_zero]
  · rw [Nat.mul_comm, Nat.mul_add_mod, Nat.mod_eq_of_lt hy]
theorem pair_lt {N M x y : Nat} (hx : x < N) (hy : y < M) : x * M + y < N * M := by
  have : (x + 1) * M ≤ N * M := Nat.mul_le_mul_right M hx
  rw [Nat.succ_mul] at this; omega
/-- each pair is one of two pairs -/
def Both (C D : Gr) (P1 P2 P : Pos) : Prop := ∀ p, p ∈ P → ∃ a b, a ∈ P1 ∧ b ∈ P2 ∧ p = (a.1 * C.n + b.1, a.2 * D.n + b.2)
theorem Both.cons {C D : Gr} {P1 P2 P : Pos} (h : Both C D P1 P2 P) (a b : Nat × Nat) : Both C D (a :: P1) (b :: P2) ((a.1 * C.n + b.1, a.2 * D.n + b.2) :: P) := fun p hp => by
  rcases List.mem_cons.1 hp with rfl | hp
  · exact ⟨a, b, List.mem_cons_self, List.mem_cons_self, rfl⟩
  · obtain ⟨u, v, hu, hv, e⟩ := h p hp
    exact ⟨u, v, List.mem_cons_of_mem _ hu, List.mem_cons_of_mem _ hv, e⟩
theorem way_prod {A B C D : Gr} {P1 P2 P : Pos} (hp : Both C D P1 P2 P) (h1 : Gway A B P1) (h2 : Gway C D P2) : Gway (prodG A C) (prodG B D) P := by
  refine ⟨fun p hpP => ?_, fun p q hpP hqP => ?_⟩
  · obtain ⟨u, v, hu, hv, rfl⟩ := hp p hpP
    obtain ⟨a, b, c⟩ := h1.1 u hu
    obtain ⟨a2, b2, c2⟩ := h2.1 v hv
    refine ⟨pair_lt a a2, pair_lt b b2, ?_⟩
    show (A.S ((u.1 * C.n + v.1) / C.n) && C.S ((u.1 * C.n + v.1) % C.n)) = (B.S ((u.2 * D.n + v.2) / D.n) && D.S ((u.2 * D.n + v.2) % D.n))
    rw [(pair_div a2).1, (pair_div a2).2, (pair_div b2).1, (pair_div b2).2, c, c2]
  · obtain ⟨u, v, hu, hv, rfl⟩ := hp p hpP
    obtain ⟨s, t, hs, ht, rfl⟩ := hp q hqP
    obtain ⟨a, b, _⟩ := h1.1 u hu
    obtain ⟨a2, b2, _⟩ := h2.1 v hv
    obtain ⟨a3, b3, _⟩ := h1.1 s hs
    obtain ⟨a4, b4, _⟩ := h2.1 t ht
    obtain ⟨e1, e2⟩ := h1.2 u s hu hs
    obtain ⟨e3, e4⟩ := h2.2 v t hv ht
    refine ⟨⟨fun e => ?_, fun e => ?_⟩, ?_⟩
    · have e : u.1 * C.n + v.1 = s.1 * C.n + t.1 := e
      have f1 : u.1 = s.1 := by rw [← (pair_div (x := u.1) a2).1, e, (pair_div a4).1]
      have f2 : v.1 = t.1 := by rw [← (pair_div (x := u.1) a2).2, e, (pair_div a4).2]
      show u.2 * D.n + v.2 = s.2 * D.n + t.2
      rw [e1.1 f1, e3.1 f2]
    · have e : u.2 * D.n + v.2 = s.2 * D.n + t.2 := e
      have f1 : u.2 = s.2 := by rw [← (pair_div (x := u.2) b2).1, e, (pair_div b4).1]
      have f2 : v.2 = t.2 := by rw [← (pair_div (x := u.2) b2).2, e, (pair_div b4).2]
      show u.1 * C.n + v.1 = s.1 * C.n + t.1
      rw [e1.2 f1, e3.2 f2]
    · show (A.R ((u.1 * C.n + v.1) / C.n) ((s.1 * C.n + t.1) / C.n) && C.R ((u.1 * C.n + v.1) % C.n) ((s.1 * C.n + t.1) % C.n)) = (B.R ((u.2 * D.n + v.2) / D.n) ((s.2 * D.n + t.2) / D.n) && D.R ((u.2 * D.n + v.2) % D.n) ((s.2 * D.n + t.2) % D.n))
      rw [(pair_div a2).1, (pair_div a2).2, (pair_div b2).1, (pair_div b2).2, (pair_div a4).1, (pair_div a4).2, (pair_div b4).1, (pair_div b4).2, e2, e4]
theorem split_lt {N M p : Nat} (h : p < N * M) : p / M < N ∧ p % M < M ∧ p / M * M + p % M = p := by
  have hM : 0 < M := by
    rcases Nat.eq_zero_or_pos M with rfl | h'
    · simp at h
    · exact h'
  refine ⟨?_, Nat.mod_lt _ hM, ?_⟩
  · rw [Nat.div_lt_iff_lt_mul hM]; exact h
  · rw [Nat.mul_comm]; exact Nat.div_add_mod p M
/-- who wins on the factors wins on the products -/
theorem win_prod {A B C D : Gr} : ∀ {r : Nat} {P1 P2 P : Pos}, Both C D P1 P2 P → Win A B r P1 → Win C D r P2 → Win (prodG A C) (prodG B D) r P
  | 0, _, _, _, hp, h1, h2 => way_prod hp h1 h2
  | r + 1, P1, P2, P, hp, h1, h2 => by
    refine ⟨way_prod hp h1.1 h2.1, fun x hx => ?_, fun y hy => ?_⟩
    · obtain ⟨d1, d2, d3⟩ := split_lt (show x < A.n * C.n from hx)
      obtain ⟨y1, hy1, hw1⟩ := h1.2.1 _ d1
      obtain ⟨y2, hy2, hw2⟩ := h2.2.1 _ d2
      refine ⟨y1 * D.n + y2, pair_lt hy1 hy2, ?_⟩
      have := win_prod (hp.cons (x / C.n, y1) (x % C.n, y2)) hw1 hw2
      rw [show (x / C.n, y1).1 * C.n + (x % C.n, y2).1 = x from d3] at this
      exact this
    · obtain ⟨d1, d2, d3⟩ := split_lt (show y < B.n * D.n from hy)
      obtain ⟨x1, hx1, hw1⟩ := h1.2.2 _ d1
      obtain ⟨x2, hx2, hw2⟩ := h2.2.2 _ d2
      refine ⟨x1 * C.n + x2, pair_lt hx1 hx2, ?_⟩
      have := win_prod (hp.cons (x1, y / D.n) (x2, y % D.n)) hw1 hw2
      rw [show (x1, y / D.n).2 * D.n + (x2, y % D.n).2 = y from d3] at this
      exact this
end Go.Proofs.YtpcnoiigbmiejaaDoor.game

/- Maps whose keys are pointers, or numbers, and whose elements are anything: which entries a map has, read and written. -/
namespace Go.Proofs.YtpcnoiigbmiejaaDoor.mapr
set_option linter.unusedVariables false
set_option linter.unusedSimpArgs false
open Go.ChangeShapes Go.WideShapes Go.ChangeAt Go.RowKit
open Go.ChangeMaps Go.MapKept
open Go.Maps (Keyed)
open Go.Proofs.YtpcnoiigbmiejaaDoor.lib

/-- what is needed of a key's type: kv x is the key of number x; G x w: it may be compared in w -/
structure Finds (P : Program) (k : TypeId) (kv : Nat → Value) (G : Nat → World → Prop) : Prop where
  inj : ∀ {x y}, kv x = kv y → x = y
  check : ∀ (w : World) (em : Bool) (x : Nat), (Instr.checkKey em 10000 k (kv x)).run P w = .ok () w
  stays : ∀ (w : World) (x : Nat), (Instr.keyThatStays (kv x) (kv x)).run P w = .ok (kv x) w
  find : ∀ (w : World) (x : Nat) (es : List MapEntry), G x w → (∀ e ∈ es, ∃ n, e.key = kv n ∧ G n w) →
    ((Instr.findKey k (kv x) es).run P w = .ok none w ∧ ∀ e ∈ es, e.key ≠ kv x) ∨ ∃ j e, (Instr.findKey k (kv x) es).run P w = .ok (some (j, e.val)) w ∧ es[j]? = some e ∧ e.key = kv x
/-- block b is a map with the entries M -/
def MapR (w : World) (b : Nat) (kv : Nat → Value) (M : Nat → Option Value) : Prop :=
  ∃ es clock, w.heap[b]? = some (.map es clock) ∧ (∀ e ∈ es.toList, ∃ n, e.key = kv n ∧ M n = some e.val) ∧ (∀ n v, M n = some v → ∃ e ∈ es.toList, e.key = kv n ∧ e.val = v) ∧ (es.toList.map fun e => e.key).Nodup
def updM (M : Nat → Option Value) (x : Nat) (v : Value) : Nat → Option Value := fun n => if n = x then some v else M n
theorem updM_same {M : Nat → Option Value} {x : Nat} {v : Value} : updM M x v x = some v := by unfold updM; rw [if_pos rfl]
theorem updM_else {M : Nat → Option Value} {x n : Nat} {v : Value} (h : n ≠ x) : updM M x v n = M n := by unfold updM; rw [if_neg h]
theorem MapR.lt {w : World} {b : Nat} {kv : Nat → Value} {M : Nat → Option Value} (h : MapR w b kv M) : b < w.heap.size := by
  obtain ⟨es, clock, hb, _⟩ := h
  exact (Array.getElem?_eq_some_iff.1 hb).1
theorem MapR.block {w w' : World} {b : Nat} {kv : Nat → Value} {M : Nat → Option Value} (h : MapR w b kv M) (hb : w'.heap[b]? = w.heap[b]?) : MapR w' b kv M := by
  obtain ⟨es, clock, h1, h2⟩ := h
  exact ⟨es, clock, hb.trans h1, h2⟩
theorem MapR.new (w : World) (kv : Nat → Value) {H : Nat} (hH : w.heap.size = H) : MapR (w.alloc (.map #[] 0)) H kv fun _ => none := by
  subst hH
  exact ⟨#[], 0, (MapKept.heap_alloc w _).1, (fun e he => by cases he), (fun n v h => by cases h), List.nodup_nil⟩
section
variable {P : Program} {k : TypeId} {kv : Nat → Value} {G : Nat → World → Prop} (K : Finds P k kv G) {w : World} {b : Nat} {M : Nat → Option Value} {t e : TypeId}
include K
theorem MapR.got (h : MapR w b kv M) (hG : ∀ n v, M n = some v → G n w) {x : Nat} (hx : G x w) : ∃ es clock, w.heap[b]? = some (.map es clock) ∧
    (((Instr.findKey k (kv x) es.toList).run P w = .ok none w ∧ M x = none) ∨ ∃ j v, (Instr.findKey k (kv x) es.toList).run P w = .ok (some (j, v)) w ∧ M x = some v) := by
  obtain ⟨es, clock, hb, h1, h2, _⟩ := h
  refine ⟨es, clock, hb, ?_⟩
  rcases K.find w x es.toList hx (fun e he => by obtain ⟨n, hn, hm⟩ := h1 e he; exact ⟨n, hn, hG n _ hm⟩) with ⟨hr, hne⟩ | ⟨j, e, hr, hj, hk⟩
  · refine .inl ⟨hr, ?_⟩
    cases hM : M x with
    | none => rfl
    | some v =>
      obtain ⟨e, he, hk, _⟩ := h2 x v hM
      exact absurd hk (hne e he)
  · refine .inr ⟨j, e.val, hr, ?_⟩
    obtain ⟨n, hn, hm⟩ := h1 e (List.mem_of_getElem? hj)
    rw [hk] at hn
    rw [K.inj hn]; exact hm
theorem MapR.look (h : MapR w b kv M) (ht : P.underlying t = some (.map k e)) {z : Value} (hz : (zeroValue e).run P w = .ok z w) (hG : ∀ n v, M n = some v → G n w) {x : Nat} (hx : G x w) :
    (Instr.lookup t (.map (some b)) (kv x) false).run P w = .ok ((M x).getD z) w := by
  obtain ⟨es, clock, hb, ⟨hr, hm⟩ | ⟨j, v, hr, hm⟩⟩ := h.got K hG hx
  · simp [Instr.lookup, run_underlying ht, MapKept.run_getObj_map hb, K.check, hr, hm, hz, Result.andThen]
  · simp [Instr.lookup, run_underlying ht, MapKept.run_getObj_map hb, K.check, hr, hm, Result.andThen]
theorem MapR.lookOk (h : MapR w b kv M) (ht : P.underlying t = some (.map k e)) {z : Value} (hz : (zeroValue e).run P w = .ok z w) (hG : ∀ n v, M n = some v → G n w) {x : Nat} (hx : G x w) :
    (Instr.lookup t (.map (some b)) (kv x) true).run P w = .ok (.tuple #[(M x).getD z, .bool (M x).isSome]) w := by
  obtain ⟨es, clock, hb, ⟨hr, hm⟩ | ⟨j, v, hr, hm⟩⟩ := h.got K hG hx
  · simp [Instr.lookup, run_underlying ht, MapKept.run_getObj_map hb, K.check, hr, hm, hz, Result.andThen]
  · simp [Instr.lookup, run_underlying ht, MapKept.run_getObj_map hb, K.check, hr, hm, Result.andThen]
omit K in
theorem none_look (ht : P.underlying t = some (.map k e)) {z : Value} (hz : (zeroValue e).run P w = .ok z w) (K : Finds P k kv G) (x : Nat) (hx : G x w) :
    (Instr.lookup t (.map none) (kv x) true).run P w = .ok (.tuple #[z, .bool false]) w := by
  rcases K.find w x [] hx (fun e he => by cases he) with ⟨hr, _⟩ | ⟨j, e, _, hj, _⟩
  · simp [Instr.lookup, run_underlying ht, K.check, hr, hz, Result.andThen]
  · simp at hj
theorem MapR.put (h : MapR w b kv M) (ht : P.underlying t = some (.map k e)) (hG : ∀ n v, M n = some v → G n w) {x : Nat} (hx : G x w) (v : Value) :
    ∃ w', (Instr.mapUpdate t (.map (some b)) (kv x) v).run P w = .ok () w' ∧ MapR w' b kv (updM M x v) ∧ w.grownBy w' (some b) := by
  obtain ⟨es, clock, hb, h1, h2, hnd⟩ := h
  have grow : ∀ o : Obj, w.grownBy (setBlock w b o) (some b) := fun o => ⟨rfl, rfl, rfl, by simp [setBlock], fun i _ hi => heap_setBlock_other hb _ (fun e => hi (by rw [e]))⟩
  rcases K.find w x es.toList hx (fun e he => by obtain ⟨n, hn, hm⟩ := h1 e he; exact ⟨n, hn, hG n _ hm⟩) with ⟨hr, hne⟩ | ⟨j, e0, hr, hj, hk⟩
  · refine ⟨setBlock w b (.map (es.push ⟨kv x, v, clock⟩) (clock + 1)), ?_, ⟨_, _, heap_setBlock_same hb _, fun e he => ?_, fun n u hu => ?_, ?_⟩, grow _⟩
    · simp [Instr.mapUpdate, run_underlying ht, MapKept.run_getObj_map hb, K.check, hr, MapKept.run_setObj_map _ hb, Result.andThen, setBlock]
    · rw [Array.toList_push, List.mem_append, List.mem_singleton] at he
      rcases he with he | rfl
      · obtain ⟨n, hn, hm⟩ := h1 e he
        refine ⟨n, hn, ?_⟩
        rw [updM_else fun e' => hne e he (by rw [hn, e'])]; exact hm
      · exact ⟨x, rfl, updM_same⟩
    · by_cases hn : n = x
      · subst hn
        rw [updM_same] at hu
        exact ⟨_, by rw [Array.toList_push]; exact List.mem_append.2 (.inr (List.mem_singleton.2 rfl)), rfl, Option.some.inj hu⟩
      · rw [updM_else hn] at hu
        obtain ⟨e, he, h3⟩ := h2 n u hu
        exact ⟨e, by rw [Array.toList_push]; exact List.mem_append.2 (.inl he), h3⟩
    · rw [Array.toList_push, List.map_append, List.nodup_append]
      refine ⟨hnd, by simp, fun a ha c hc => ?_⟩
      obtain ⟨e, he, rfl⟩ := List.mem_map.1 ha
      simp only [List.map_cons, List.map_nil, List.mem_singleton] at hc
      rw [hc]; exact hne e he
  · have hj' : es[j]? = some e0 := by simpa using hj
    have hlist : (es.modify j (fun e' => { e' with key := kv x, val := v })).toList = es.toList.set j { e0 with key := kv x, val := v } := by rw [Array.toList_modify, modify_eq_set _ _ _ _ hj]
    have hjl : j < es.toList.length := (List.getElem?_eq_some_iff.1 hj).1
    have other : ∀ i e, i ≠ j → es.toList[i]? = some e → e.key ≠ kv x := fun i e hij hi hkey => by
      have := List.getElem?_inj (i := i) (j := j) (l := es.toList.map fun e => e.key) (by rw [List.length_map]; exact (List.getElem?_eq_some_iff.1 hi).1) hnd |>.1 (by rw [List.getElem?_map, List.getElem?_map, hi, hj]; simp [hkey, hk])
      exact hij this
    refine ⟨setBlock w b (.map (es.modify j (fun e' => { e' with key := kv x, val := v })) clock), ?_, ⟨_, _, heap_setBlock_same hb _, fun e he => ?_, fun n u hu => ?_, ?_⟩, grow _⟩
    · simp [Instr.mapUpdate, run_underlying ht, MapKept.run_getObj_map hb, K.check, hr, hj', hk, K.stays, MapKept.run_setObj_map _ hb, Result.andThen, setBlock]
    · rw [hlist] at he
      obtain ⟨i, hi, ex⟩ := List.getElem_of_mem he
      rw [List.getElem_set] at ex
      split at ex
      · subst ex; exact ⟨x, rfl, updM_same⟩
      · rename_i hne
        have hi' : i < es.toList.length := by simpa using hi
        have hmem : e ∈ es.toList := ex ▸ List.getElem_mem hi'
        obtain ⟨n, hn, hm⟩ := h1 e hmem
        refine ⟨n, hn, ?_⟩
        rw [updM_else fun e' => other i e (fun h => hne h.symm) (by rw [List.getElem?_eq_getElem hi', ex]) (by rw [hn, e'])]; exact hm
    · rw [hlist]
      by_cases hn : n = x
      · subst hn
        rw [updM_same] at hu
        exact ⟨_, List.mem_iff_getElem?.2 ⟨j, by rw [List.getElem?_set_self hjl]⟩, rfl, Option.some.inj hu⟩
      · rw [updM_else hn] at hu
        obtain ⟨e, he, h3, h4⟩ := h2 n u hu
        obtain ⟨i, hi⟩ := List.mem_iff_getElem?.1 he
        refine ⟨e, List.mem_iff_getElem?.2 ⟨i, ?_⟩, h3, h4⟩
        have hij : j ≠ i := fun hij => by
          subst hij
          rw [hj] at hi
          cases hi
          exact hn (K.inj (h3.symm.trans hk))
        rw [List.getElem?_set_ne hij]; exact hi
    · rw [hlist, List.map_set]
      have : (es.toList.map fun e => e.key).set j (kv x) = es.toList.map fun e => e.key := by
        refine List.ext_getElem? fun i => ?_
        by_cases hij : j = i
        · subst hij
          rw [List.getElem?_set_self (by rw [List.length_map]; exact hjl), List.getElem?_map, hj]; simp [hk]
        · rw [List.getElem?_set_ne hij]
      rw [this]; exact hnd
end
/-- keys that are whole numbers -/
theorem finds_int {P : Program} {k : TypeId} (hk : P.underlying k = some (.int .i64)) : Finds P k (fun n => .int .i64 (n : Int)) (fun n _ => n ≤ 9223372036854775807) where
  inj := fun {x y} h => by
    simp only [Value.int.injEq, true_and] at h
    omega
  check := fun w em x => by
    show (Instr.checkKey em (9999 + 1) k _).run P w = _
    have h : ∀ n : Nat, (Instr.checkKey em (n + 1) k (.int .i64 (x : Int))).run P w = .ok () w := fun n => by simp [Instr.checkKey, run_underlying hk, Result.andThen]
    exact h 9999
  stays := fun w x => by simp [Instr.keyThatStays, Instr.sameBits]
  find := fun w x es hx hes => by
    have wf : ∀ n : Nat, n ≤ 9223372036854775807 → keyOf P k (.int .i64 (n : Int)) = some (.int .i64 (n : Int)) := fun n hn => Maps.keyOf_int_mk hk (by
      show (decide (IntKind.i64.min ≤ (n : Int)) && decide ((n : Int) ≤ IntKind.i64.max)) = true
      have h1 : IntKind.i64.min ≤ 0 := by decide
      have h2 : (9223372036854775807 : Int) ≤ IntKind.i64.max := by decide
      rw [Bool.and_eq_true, decide_eq_true_iff, decide_eq_true_iff]; omega)
    exact (Maps.int_keyed hk).find w (wf x hx) es fun e he => by
      obtain ⟨n, hn, hg⟩ := hes e he
      exact ⟨_, by rw [hn]; exact wf n hg⟩
/-- keys that are pointers to blocks of cells -/
def PtrAt (n : Nat) (w : World) : Prop := ∃ cs T, w.heap[n]? = some (.cells cs T (0, 0))
theorem ask_ptr {P : Program} {k te : TypeId} {j : TypeInfo} (hk : P.underlying k = some (.pointer te)) (hte : P.info? te = some j) (hsz : j.size ≠ 0) (w : World) (x : Nat) (hx : PtrAt x w) :
    ∀ (es : List MapEntry) (i : Nat), (∀ e ∈ es, ∃ n, e.key = .pointer (some ⟨n, 0, none⟩) ∧ PtrAt n w) →
    ((Instr.findAsking k (.pointer (some ⟨x, 0, none⟩)) es i).run P w = .ok none w ∧ ∀ e ∈ es, e.key ≠ .pointer (some ⟨x, 0, none⟩)) ∨ ∃ j e, (Instr.findAsking k (.pointer (some ⟨x, 0, none⟩)) es i).run P w = .ok (some (i + j, e.val)) w ∧ es[j]? = some e ∧ e.key = .pointer (some ⟨x, 0, none⟩)
  | [], i, _ => .inl ⟨by simp [Instr.findAsking], fun e he => by cases he⟩
  | e :: es, i, hall => by
    obtain ⟨n, hn, ⟨cn, tn, hcn⟩⟩ := hall e List.mem_cons_self
    obtain ⟨cx, tx, hcx⟩ := hx
    by_cases hnx : n = x
    · subst hnx
      have hr : (Op.equal k (.pointer (some ⟨n, 0, none⟩)) e.key).run P w = .ok true w := by
        rw [hn]
        have h : ∀ d : Nat, (Op.equalIn (d + 1) k (.pointer (some ⟨n, 0, none⟩)) (.pointer (some ⟨n, 0, none⟩))).run P w = .ok true w := fun d => by simp [Op.equalIn, run_underlying hk, sizeOf, typeInfo, hte, run_sameAddr_same]
        exact h 9999
      exact .inr ⟨0, e, by simp [Instr.findAsking, hr], rfl, hn⟩
    · have hr : (Op.equal k (.pointer (some ⟨x, 0, none⟩)) e.key).run P w = .ok false w := by
        rw [hn]
        have ho : (sameAddr ⟨x, 0, none⟩ ⟨n, 0, none⟩).run P w = .ok false w := run_sameAddr_other (P := P) w (a := ⟨x, 0, none⟩) (b := ⟨n, 0, none⟩) (fun h => hnx (by cases h; rfl)) hcx hcn
        have h : ∀ d : Nat, (Op.equalIn (d + 1) k (.pointer (some ⟨x, 0, none⟩)) (.pointer (some ⟨n, 0, none⟩))).run P w = .ok false w := fun d => by simp [Op.equalIn, run_underlying hk, sizeOf, typeInfo, hte, hsz, ho]
        exact h 9999
      rcases ask_ptr hk hte hsz w x ⟨cx, tx, hcx⟩ es (i + 1) (fun y hy => hall y (List.mem_cons_of_mem _ hy)) with ⟨h1, h2⟩ | ⟨j', e', h1, h2, h3⟩
      · refine .inl ⟨by simp [Instr.findAsking, hr, h1], fun y hy => ?_⟩
        rcases List.mem_cons.1 hy with rfl | hy
        · rw [hn]; intro h; cases h; exact hnx rfl
        · exact h2 y hy
      · exact .inr ⟨j' + 1, e', by simp [Instr.findAsking, hr, h1, Nat.add_assoc, Nat.add_comm 1 j'], by simpa using h2, h3⟩
theorem finds_ptr {P : Program} {k te : TypeId} {j : TypeInfo} (hk : P.underlying k = some (.pointer te)) (hte : P.info? te = some j) (hsz : j.size ≠ 0) : Finds P k (fun n => .pointer (some ⟨n, 0, none⟩)) PtrAt where
  inj := fun {x y} h => by cases h; rfl
  check := fun w em x => by
    show (Instr.checkKey em (9999 + 1) k _).run P w = _
    have h : ∀ n : Nat, (Instr.checkKey em (n + 1) k (.pointer (some ⟨x, 0, none⟩))).run P w = .ok () w := fun n => by simp [Instr.checkKey, run_underlying hk, Result.andThen]
    exact h 9999
  stays := fun w x => by simp [Instr.keyThatStays, Instr.sameBits]
  find := fun w x es hx hes => by
    cases es with
    | nil => exact .inl ⟨by simp [Instr.findKey, run_underlying hk, Instr.findNow, Result.andThen], fun e he => by cases he⟩
    | cons e es =>
      have hf : (Instr.findKey k (.pointer (some ⟨x, 0, none⟩)) (e :: es)).run P w = (Instr.findAsking k (.pointer (some ⟨x, 0, none⟩)) (e :: es)).run P w := by
        obtain ⟨n, hn, _⟩ := hes e List.mem_cons_self
        have h1 : Instr.findNow (.pointer te) (.pointer (some ⟨x, 0, none⟩)) (e :: es) 0 = none := by simp [Instr.findNow, Instr.sameNow]
        simp [Instr.findKey, run_underlying hk, h1, Result.andThen]
      rw [hf]
      rcases ask_ptr hk hte hsz w x hx (e :: es) 0 hes with h | ⟨j', e', h1, h2, h3⟩
      · exact .inl h
      · exact .inr ⟨j', e', by rw [h1, Nat.zero_add], h2, h3⟩
/-! at the operation -/
theorem wpList_look {P : Program} (w : World) {ops : Array Oper} {rest : List Oper} {o : Oper} {a : Act} {Q : Exit → Act → World → Prop} (hg : o.guard = none) (m x : Operand) (t : TypeId) (ok : Bool) (hop : o.op = Op.lookup t m x ok)
    (mv xv v : Value) (hm : a.eval m = mv) (hx : a.eval x = xv) (hrun : (Instr.lookup t mv xv ok).run P w = .ok v w) (hK : wpList P ops Q rest (a.put o.dst v) w) : wpList P ops Q (o :: rest) a w := by
  refine wpList_plain hg fun K' hK' => ?_
  unfold Oper.wp
  simp [execOp, hop, hm, hx, hrun, Result.andThen]
  exact hK' _ _ hK
theorem wpList_store {P : Program} (w : World) {ops : Array Oper} {rest : List Oper} {o : Oper} {a : Act} {Q : Exit → Act → World → Prop} (hg : o.guard = none) (m x v : Operand) (t : TypeId) (hop : o.op = Op.mapUpdate t m x v)
    (mv xv vv : Value) (hm : a.eval m = mv) (hx : a.eval x = xv) (hv : a.eval v = vv) (w' : World) (hrun : (Instr.mapUpdate t mv xv vv).run P w = .ok () w') (hK : wpList P ops Q rest (a.put o.dst undef) w') : wpList P ops Q (o :: rest) a w := by
  refine wpList_plain hg fun K' hK' => ?_
  unfold Oper.wp
  simp [execOp, hop, hm, hx, hv, hrun, Result.andThen]
  exact hK' _ _ hK
end Go.Proofs.YtpcnoiigbmiejaaDoor.mapr

/- The exact laws' helpers over structures: toStructure, szStructure, eqStructure: their contracts. A structure by value, and the block in which a boxed one lies. -/
namespace Go.Proofs.YtpcnoiigbmiejaaDoor.st
set_option linter.unusedVariables false
set_option linter.unusedSimpArgs false
open Go.ChangeShapes Go.WideShapes Go.ChangeAt Go.RowKit
open Go.Proofs.YtpcnoiigbmiejaaDoor.lib

/-- a structure by value -/
abbrev sv (n : Int) (s r : ByteArray) : Value := .agg #[.int .i64 n, .string s, .string r]
/-- block H holds a boxed structure of type T -/
def Box (T : TypeId) (w : World) (H : Nat) (n : Int) (s r : ByteArray) : Prop := w.heap[H]? = some (.cells #[.int .i64 n, .string s, .string r] T (0, 0))
theorem Box.c {T : TypeId} {w : World} {H : Nat} {n : Int} {s r : ByteArray} (h : Box T w H n s r) :
    w.cell? ⟨H, 0, none⟩ = some (.int .i64 n) ∧ w.cell? ⟨H, 1, none⟩ = some (.string s) ∧ w.cell? ⟨H, 2, none⟩ = some (.string r) := by
  unfold Box at h
  refine ⟨?_, ?_, ?_⟩ <;> simp [World.cell?, h]
theorem Box.below {T : TypeId} {w w' : World} {H C : Nat} {n : Int} {s r : ByteArray} (h : Box T w H n s r) (hb : Below C w w') (hC : H < C) : Box T w' H n s r := by
  unfold Box at *
  rw [hb.block H hC]; exact h
theorem Box.new (T : TypeId) (w : World) (H : Nat) (hH : w.heap.size = H) (n : Int) (s r : ByteArray) : Box T (w.alloc (.cells #[.int .i64 n, .string s, .string r] T)) H n s r := by
  subst hH; exact heap_alloc_new w _
theorem Box.lt {T : TypeId} {w : World} {H : Nat} {n : Int} {s r : ByteArray} (h : Box T w H n s r) : H < w.heap.size := (Array.getElem?_eq_some_iff.1 h).1

theorem Box.free {T : TypeId} {w : World} {H : Nat} {n : Int} {s r : ByteArray} (h : Box T w H n s r) (j : Nat) : w.frozen? ⟨H, j, none⟩ = false := frozen_of_row w H j _ T h
theorem Box.set0 {T : TypeId} {w : World} {H : Nat} {n : Int} {s r : ByteArray} (h : Box T w H n s r) (n' : Int) : Box T (w.setCell ⟨H, 0, none⟩ (.int .i64 n')) H n' s r := by
  have := heap_setCell_same w H 0 #[.int .i64 n, .string s, .string r] T (.int .i64 n') h
  unfold Box
  rw [this]; rfl
theorem Box.set1 {T : TypeId} {w : World} {H : Nat} {n : Int} {s r : ByteArray} (h : Box T w H n s r) (s' : ByteArray) : Box T (w.setCell ⟨H, 1, none⟩ (.string s')) H n s' r := by
  have := heap_setCell_same w H 1 #[.int .i64 n, .string s, .string r] T (.string s') h
  unfold Box
  rw [this]; rfl
theorem Box.set2 {T : TypeId} {w : World} {H : Nat} {n : Int} {s r : ByteArray} (h : Box T w H n s r) (r' : ByteArray) : Box T (w.setCell ⟨H, 2, none⟩ (.string r')) H n s r' := by
  have := heap_setCell_same w H 2 #[.int .i64 n, .string s, .string r] T (.string r') h
  unfold Box
  rw [this]; rfl
/-- what a world keeps of an older one: for regions that draw their order -/
theorem keepCell {W W' : World} (hb : Below W.heap.size W W') {a : Addr} {v : Value} (h : W.cell? a = some v) : W'.cell? a = some v := by
  rw [hb.cell (World.block_lt_of_cell? W a h)]; exact h
theorem keepBelow {w0 W W' : World} (hb : Below W.heap.size W W') (h : Hid (Below w0.heap.size w0 W)) : Hid (Below w0.heap.size w0 W') := h.out.trans (hb.mono h.out.size)

theorem keep6 {w0 W W' : World} {a1 a2 a3 a4 a5 a6 : Addr} {v1 v2 v3 v4 v5 v6 : Value} (hb : Below W.heap.size W W')
    (h : W.cell? a1 = some v1 ∧ W.cell? a2 = some v2 ∧ W.cell? a3 = some v3 ∧ W.cell? a4 = some v4 ∧ W.cell? a5 = some v5 ∧ W.cell? a6 = some v6 ∧ Hid (Below w0.heap.size w0 W)) :
    W'.cell? a1 = some v1 ∧ W'.cell? a2 = some v2 ∧ W'.cell? a3 = some v3 ∧ W'.cell? a4 = some v4 ∧ W'.cell? a5 = some v5 ∧ W'.cell? a6 = some v6 ∧ Hid (Below w0.heap.size w0 W') :=
  ⟨keepCell hb h.1, keepCell hb h.2.1, keepCell hb h.2.2.1, keepCell hb h.2.2.2.1, keepCell hb h.2.2.2.2.1, keepCell hb h.2.2.2.2.2.1, keepBelow hb h.2.2.2.2.2.2⟩
theorem keepS2 {w0 X : World} {a1 a2 a3 a4 a5 a6 : Addr} {v1 v2 v3 v4 v5 v6 : Value}
    (h : w0.cell? a1 = some v1 ∧ w0.cell? a2 = some v2 ∧ w0.cell? a3 = some v3 ∧ w0.cell? a4 = some v4 ∧ w0.cell? a5 = some v5 ∧ w0.cell? a6 = some v6) (hb : Below w0.heap.size w0 X) :
    X.cell? a1 = some v1 ∧ X.cell? a2 = some v2 ∧ X.cell? a3 = some v3 ∧ X.cell? a4 = some v4 ∧ X.cell? a5 = some v5 ∧ X.cell? a6 = some v6 ∧ Hid (Below w0.heap.size w0 X) :=
  ⟨keepCell hb h.1, keepCell hb h.2.1, keepCell hb h.2.2.1, keepCell hb h.2.2.2.1, keepCell hb h.2.2.2.2.1, keepCell hb h.2.2.2.2.2, hb⟩
theorem keepS1 {w0 X : World} {a1 a2 a3 : Addr} {v1 v2 v3 : Value} (h : w0.cell? a1 = some v1 ∧ w0.cell? a2 = some v2 ∧ w0.cell? a3 = some v3) (hb : Below w0.heap.size w0 X) :
    X.cell? a1 = some v1 ∧ X.cell? a2 = some v2 ∧ X.cell? a3 = some v3 ∧ Hid (Below w0.heap.size w0 X) := ⟨keepCell hb h.1, keepCell hb h.2.1, keepCell hb h.2.2, hb⟩
theorem keep6a {w0 W : World} {o : Obj} {a1 a2 a3 a4 a5 a6 : Addr} {v1 v2 v3 v4 v5 v6 : Value}
    (h : W.cell? a1 = some v1 ∧ W.cell? a2 = some v2 ∧ W.cell? a3 = some v3 ∧ W.cell? a4 = some v4 ∧ W.cell? a5 = some v5 ∧ W.cell? a6 = some v6 ∧ Hid (Below w0.heap.size w0 W)) :
    (W.alloc o).cell? a1 = some v1 ∧ (W.alloc o).cell? a2 = some v2 ∧ (W.alloc o).cell? a3 = some v3 ∧ (W.alloc o).cell? a4 = some v4 ∧ (W.alloc o).cell? a5 = some v5 ∧ (W.alloc o).cell? a6 = some v6 ∧ Hid (Below w0.heap.size w0 (W.alloc o)) :=
  keep6 ((Below.refl _ _).alloc (Nat.le_refl _) _) h
theorem out6 {w0 W : World} {a1 a2 a3 a4 a5 a6 : Addr} {v1 v2 v3 v4 v5 v6 : Value}
    (h : W.cell? a1 = some v1 ∧ W.cell? a2 = some v2 ∧ W.cell? a3 = some v3 ∧ W.cell? a4 = some v4 ∧ W.cell? a5 = some v5 ∧ W.cell? a6 = some v6 ∧ Hid (Below w0.heap.size w0 W)) : Below w0.heap.size w0 W := h.2.2.2.2.2.2

def szL (s r : ByteArray) (left : Int) : Int := if left - s.size < 0 then -1 else if left - s.size - r.size < 0 then -1 else left - s.size - r.size
theorem szL_le (s r : ByteArray) (left : Int) (h : 0 ≤ left) : szL s r left ≤ left := by unfold szL; split <;> (try split) <;> omega
theorem szL_sum (s r : ByteArray) (left : Int) (h : 0 ≤ szL s r left) (hl : 0 ≤ left) : (s.size : Int) + r.size + szL s r left = left := by unfold szL at *; split at h <;> (try split at h) <;> simp_all <;> omega
end Go.Proofs.YtpcnoiigbmiejaaDoor.st

/- The helpers of the exact laws over slices of integers: eqIntS, markIntS, heldIntS: their contracts. -/
namespace Go.Proofs.YtpcnoiigbmiejaaDoor.sl
set_option linter.unusedVariables false
set_option linter.unusedSimpArgs false
open Go.ChangeShapes Go.WideShapes Go.ChangeAt Go.RowKit
open Go.Proofs.YtpcnoiigbmiejaaDoor.lib

theorem infoInt : (Tryd.prog.info? 3).map (fun i => (i.zero, i.size, i.bytes)) = some (some (.int .i64 0), 1, 8) := by kernel_rfl

theorem below_drewN' {w w' : World} (h : ∃ n, w' = w.drewN n) : Below w.heap.size w w' := by
  obtain ⟨n, rfl⟩ := h
  exact below_drewN (Below.refl _ _) n
end Go.Proofs.YtpcnoiigbmiejaaDoor.sl

/- The reference's table of descriptions: how it lies in memory, and what one more description makes of it. No program in sight. -/
namespace Go.Proofs.YtpcnoiigbmiejaaDoor.tab
set_option linter.unusedVariables false
set_option linter.unusedSimpArgs false
open Go.RowKit Go.Proofs.YtpcnoiigbmiejaaDoor.lib

def hashB (s : ByteArray) : Nat := s.data.toList.foldl (fun k c => (k * 31 + c.toNat) % 997) 0
theorem hash_lt (s : ByteArray) : hashB s < 997 := by
  have key : ∀ (l : List UInt8) (k : Nat), k < 997 → l.foldl (fun k c => (k * 31 + c.toNat) % 997) k < 997 := fun l => by
    induction l with
    | nil => intro k h; exact h
    | cons a l ih => intro k h; exact ih _ (Nat.mod_lt _ (by decide))
  exact key _ 0 (by decide)
/-- the entries of a row -/
def rowE (L : List ByteArray) (k : Nat) : List (ByteArray × Nat) := L.zipIdx.filter fun e => hashB e.1 == k
def cellsE (l : List (ByteArray × Nat)) : List Value := l.flatMap fun e => [.string e.1, .int .i64 (e.2 : Int)]
theorem cellsE_len (l : List (ByteArray × Nat)) : (cellsE l).length = l.length * 2 := by
  unfold cellsE
  induction l with
  | nil => rfl
  | cons a l ih => rw [List.flatMap_cons, List.length_append, ih]; simp; omega
theorem cellsE_append (l m : List (ByteArray × Nat)) : cellsE (l ++ m) = cellsE l ++ cellsE m := List.flatMap_append
theorem cellsE_get : ∀ (l : List (ByteArray × Nat)) (i : Nat) (h : i < l.length), (cellsE l)[i * 2]? = some (.string l[i].1) ∧ (cellsE l)[i * 2 + 1]? = some (.int .i64 (l[i].2 : Int))
  | a :: l, 0, h => ⟨rfl, rfl⟩
  | a :: l, i + 1, h => by
    have ih := cellsE_get l i (by simpa using h)
    have e : cellsE (a :: l) = [.string a.1, .int .i64 (a.2 : Int)] ++ cellsE l := rfl
    rw [e, show (i + 1) * 2 = i * 2 + 2 from by omega, show i * 2 + 2 + 1 = (i * 2 + 1) + 2 from by omega]
    rw [List.getElem?_append_right (by simp), List.getElem?_append_right (by simp)]
    simpa using ih
theorem row_snoc (L : List ByteArray) (s : ByteArray) (k : Nat) : rowE (L ++ [s]) k = rowE L k ++ if hashB s = k then [(s, L.length)] else [] := by
  unfold rowE
  rw [List.zipIdx_append, List.filter_append]
  congr 1
  simp only [List.zipIdx_cons, List.zipIdx_nil, Nat.zero_add]
  by_cases h : hashB s = k
  · rw [if_pos h, List.filter_cons_of_pos (by simpa using h)]; rfl
  · rw [if_neg h, List.filter_cons_of_neg (by simpa using h)]; rfl
theorem row_mem {L : List ByteArray} {k : Nat} {e : ByteArray × Nat} (h : e ∈ rowE L k) : L[e.2]? = some e.1 := by
  unfold rowE at h
  have h := (List.mem_filter.1 h).1
  obtain ⟨a, i⟩ := e
  exact List.mk_mem_zipIdx_iff_getElem?.1 h
theorem row_has {L : List ByteArray} {s : ByteArray} (h : s ∈ L) : ∃ e ∈ rowE L (hashB s), e.1 = s := by
  obtain ⟨i, hi, rfl⟩ := List.mem_iff_getElem.1 h
  exact ⟨(L[i], i), List.mem_filter.2 ⟨List.mk_mem_zipIdx_iff_getElem?.2 (by simp [hi]), by simp⟩, rfl⟩
theorem row_len (L : List ByteArray) (k : Nat) : (rowE L k).length ≤ L.length := by
  unfold rowE
  exact Nat.le_trans (List.length_filter_le _ _) (by simp)

/-- the table as a value -/
def tv (gl cl gc cc : Nat) : Value := .agg #[.slice (some ⟨gl, 0, none⟩) 997 cl, .slice (some ⟨gc, 0, none⟩) 1 cc]
/-- the table lies in the blocks of D and holds the descriptions L -/
structure Tab (TE TR TI : TypeId) (gl cl gc cc : Nat) (w : World) (D : Nat → Prop) (L : List ByteArray) (vs : List Value) : Prop where
  len : vs.length = 997
  rows : w.ownsRow 0 TR 1 (.slice (some ⟨gl, 0, none⟩) 997 cl) 997 vs
  count : OwnI TI w 0 (.slice (some ⟨gc, 0, none⟩) 1 cc) [(L.length : Int)]
  ne : gl ≠ gc
  dl : D gl
  dc : D gc
  row : ∀ (k : Nat) (u : Value), vs[k]? = some u → w.ownsRow 0 TE 2 u (rowE L k).length (cellsE (rowE L k))
  dr : ∀ (k : Nat) (u : Value) (g : Nat), vs[k]? = some u → u.ownBlock = some g → D g
  apart : ∀ (j k : Nat) (u u' : Value) (g : Nat), j ≠ k → vs[j]? = some u → vs[k]? = some u' → u.ownBlock = some g → u'.ownBlock ≠ some g
  off : ∀ (k : Nat) (u : Value) (g : Nat), vs[k]? = some u → u.ownBlock = some g → g ≠ gl ∧ g ≠ gc
  nodup : L.Nodup
  lt : ∀ k, D k → k < w.heap.size
/-- what lies outside D is as it was -/
structure Out (D : Nat → Prop) (w w' : World) : Prop where
  os : w'.os = w.os
  tape : w'.tape = w.tape
  output : w'.output = w.output
  size : w.heap.size ≤ w'.heap.size
  block : ∀ k, k < w.heap.size → ¬ D k → w'.heap[k]? = w.heap[k]?
theorem Out.refl (D : Nat → Prop) (w : World) : Out D w w := ⟨rfl, rfl, rfl, Nat.le_refl _, fun _ _ _ => rfl⟩
theorem Out.trans {D D' : Nat → Prop} {w w1 w2 : World} (p : Out D w w1) (q : Out D' w1 w2) (hD : ∀ k, D' k → D k ∨ w.heap.size ≤ k) : Out D w w2 :=
  ⟨q.os.trans p.os, q.tape.trans p.tape, q.output.trans p.output, Nat.le_trans p.size q.size, fun k hk hn => (q.block k (Nat.lt_of_lt_of_le hk p.size) fun h => by
    rcases hD k h with h | h
    · exact hn h
    · omega).trans (p.block k hk hn)⟩
theorem Out.of_below {D : Nat → Prop} {w w' : World} {C : Nat} (h : Below C w w') (hC : w.heap.size ≤ C) : Out D w w' :=
  ⟨h.os, h.tape, h.output, h.size, fun k hk _ => h.block k (by omega)⟩
theorem Out.of_grown {D : Nat → Prop} {w w' : World} {row : Option Nat} (h : w.grownBy w' row) (hr : ∀ g, row = some g → D g) : Out D w w' :=
  ⟨h.os, h.tape, h.output, h.size, fun k hk hn => h.block k hk fun e => hn (hr k e.symm)⟩
theorem Out.below {D : Nat → Prop} {w w' : World} {B : Nat} (h : Out D w w') (hD : ∀ k, D k → B ≤ k) (hB : B ≤ w.heap.size) : Below B w w' :=
  ⟨h.os, h.tape, h.output, h.size, fun k hk => h.block k (by omega) fun hd => by have := hD k hd; omega⟩
theorem Out.cell {D : Nat → Prop} {w w' : World} (h : Out D w w') {a : Addr} {v : Value} (hc : w.cell? a = some v) (hn : ¬ D a.block) : w'.cell? a = some v :=
  (World.cell?_of_block (h.block a.block (World.block_lt_of_cell? w a hc) hn)).trans hc
theorem owns_same {w w' : World} {B : Nat} {T : TypeId} {u : Nat} {v : Value} {n : Nat} {xs : List Value} (h : w.ownsRow B T u v n xs) (hb : ∀ g, v.ownBlock = some g → w'.heap[g]? = w.heap[g]?) : w'.ownsRow B T u v n xs := by
  refine ⟨h.1, ?_⟩
  rcases h.2 with hn | ⟨g, cap, cur, rfl, hB, hg, rest⟩
  · exact .inl hn
  · exact .inr ⟨g, cap, cur, rfl, hB, by rw [hb g rfl]; exact hg, rest⟩
theorem Out.owns {D : Nat → Prop} {w w' : World} {B : Nat} {T : TypeId} {u : Nat} {v : Value} {n : Nat} {xs : List Value} (h : Out D w w') (ho : w.ownsRow B T u v n xs) (hn : ∀ g, v.ownBlock = some g → ¬ D g) : w'.ownsRow B T u v n xs :=
  owns_same ho fun g hg => h.block g (ho.lt g hg).2 (hn g hg)
theorem Out.reads {D : Nat → Prop} {w w' : World} {v : Value} {l : List Int} (h : Out D w w') (hr : Reads w v l) (hn : ∀ g, v.ownBlock = some g → ¬ D g) : Reads w' v l := by
  obtain ⟨ao, cap, rfl, hr, hc⟩ := hr
  refine ⟨ao, cap, rfl, ?_, hc⟩
  rcases hr with hr | ⟨b, off, rfl, hr⟩
  · exact .inl hr
  · exact .inr ⟨b, off, rfl, fun i hi => h.cell (hr i hi) (hn b rfl)⟩
theorem Tab.kept {TE TR TI : TypeId} {gl cl gc cc : Nat} {w w' : World} {D : Nat → Prop} {L : List ByteArray} {vs : List Value} (h : Tab TE TR TI gl cl gc cc w D L vs) (hb : ∀ k, D k → w'.heap[k]? = w.heap[k]?) (hs : w.heap.size ≤ w'.heap.size) : Tab TE TR TI gl cl gc cc w' D L vs where
  len := h.len
  rows := owns_same h.rows fun g hg => hb g (by cases hg; exact h.dl)
  count := owns_same h.count fun g hg => hb g (by cases hg; exact h.dc)
  ne := h.ne
  dl := h.dl
  dc := h.dc
  row := fun k u hu => owns_same (h.row k u hu) fun g hg => hb g (h.dr k u g hu hg)
  dr := h.dr
  apart := h.apart
  off := h.off
  nodup := h.nodup
  lt := fun k hk => Nat.lt_of_lt_of_le (h.lt k hk) hs
theorem Tab.below {TE TR TI : TypeId} {gl cl gc cc : Nat} {w w' : World} {D : Nat → Prop} {L : List ByteArray} {vs : List Value} {C : Nat} (h : Tab TE TR TI gl cl gc cc w D L vs) (hb : Below C w w') (hC : w.heap.size ≤ C) : Tab TE TR TI gl cl gc cc w' D L vs :=
  h.kept (fun k hk => hb.block k (by have := h.lt k hk; omega)) hb.size
/-- the row of a description grew by it, and the count -/
theorem Tab.more {TE TR TI : TypeId} {gl cl gc cc : Nat} {w w' : World} {D : Nat → Prop} {L : List ByteArray} {vs : List Value} (h : Tab TE TR TI gl cl gc cc w D L vs) {s : ByteArray} (hs : s ∉ L) {u v : Value} (hu : vs[hashB s]? = some u)
    (hr : w'.ownsRow 0 TR 1 (.slice (some ⟨gl, 0, none⟩) 997 cl) 997 (vs.set (hashB s) v)) (hc : OwnI TI w' 0 (.slice (some ⟨gc, 0, none⟩) 1 cc) [((L.length + 1 : Nat) : Int)])
    (hv : w'.ownsRow 0 TE 2 v ((rowE L (hashB s)).length + 1) (cellsE (rowE L (hashB s)) ++ [.string s, .int .i64 (L.length : Int)]))
    (hk : ∀ k, k < w.heap.size → k ≠ gl → k ≠ gc → u.ownBlock ≠ some k → w'.heap[k]? = w.heap[k]?) (hsz : w.heap.size ≤ w'.heap.size) (hg : ∀ g, v.ownBlock = some g → u.ownBlock = some g ∨ w.heap.size ≤ g) :
    Tab TE TR TI gl cl gc cc w' (fun k => D k ∨ v.ownBlock = some k) (L ++ [s]) (vs.set (hashB s) v) where
  len := by rw [List.length_set]; exact h.len
  rows := hr
  count := by rw [List.length_append]; exact hc
  ne := h.ne
  dl := .inl h.dl
  dc := .inl h.dc
  row := fun k x hx => by
    rw [List.getElem?_set] at hx
    rw [row_snoc]
    split at hx
    · rename_i e
      split at hx
      · cases hx
        rw [if_pos e, ← e, List.length_append, cellsE_append]
        exact hv
      · cases hx
    · rename_i e
      rw [if_neg e, List.append_nil]
      refine owns_same (h.row k x hx) fun g hg => hk g (h.lt g (h.dr k x g hx hg)) (h.off k x g hx hg).1 (h.off k x g hx hg).2 (h.apart k (hashB s) x u g (fun e' => e e'.symm) hx hu hg)
  dr := fun k x g hx hg' => by
    rw [List.getElem?_set] at hx
    split at hx
    · split at hx
      · cases hx; exact .inr hg'
      · cases hx
    · exact .inl (h.dr k x g hx hg')
  apart := fun j k x y g hjk hx hy hg1 hg2 => by
    rw [List.getElem?_set] at hx hy
    have old : ∀ (i : Nat) (z : Value), i ≠ hashB s → vs[i]? = some z → z.ownBlock = some g → v.ownBlock = some g → False := fun i z hi hz h1 h2 => by
      rcases hg g h2 with e | e
      · exact h.apart i (hashB s) z u g hi hz hu h1 e
      · have := h.lt g (h.dr i z g hz h1); omega
    split at hx
    · rename_i e1
      split at hx
      · cases hx
        rw [if_neg (by omega)] at hy
        exact old k y (by omega) hy hg2 hg1
      · cases hx
    · rename_i e1
      split at hy
      · split at hy
        · cases hy
          exact old j x (by omega) hx hg1 hg2
        · cases hy
      · exact h.apart j k x y g hjk hx hy hg1 hg2
  off := fun k x g hx hg1 => by
    rw [List.getElem?_set] at hx
    split at hx
    · split at hx
      · cases hx
        rcases hg g hg1 with e | e
        · exact h.off _ u g hu e
        · have h1 := h.lt _ h.dl; have h2 := h.lt _ h.dc; omega
      · cases hx
    · exact h.off k x g hx hg1
  nodup := by
    rw [List.nodup_append]
    refine ⟨h.nodup, by simp, fun a ha b hb e => ?_⟩
    rw [List.mem_singleton] at hb
    subst hb; subst e; exact hs ha
  lt := fun k hk' => by
    rcases hk' with hk' | hk'
    · exact Nat.lt_of_lt_of_le (h.lt k hk') hsz
    · exact (hv.lt k hk').2
/-- an append of a pair of cells to a row of its own -/
theorem wpList_app2 {P : Program} (w : World) {ops : Array Oper} {rest : List Oper} {o : Oper} {a : Act} {Q : Exit → Act → World → Prop}
    (hgd : o.guard = none) (s x : Operand) (t : TypeId) (hop : o.op = Op.call { callee := Callee.builtin Builtin.append, args := #[s, x], argTypes := #[t, t] })
    (base : Nat) (e : TypeId) (z : Value) (bytes : Nat) (h1 : P.underlying t = some (.slice e)) (hinfo : (P.info? e).map (fun i => (i.zero, i.size, i.bytes)) = some (some z, 2, bytes)) (hz : z.cells.size = 2) (b2 : bytes ≤ 24)
    (v : Value) (n : Nat) (xs : List Value) (u1 u2 : Value) (hs : a.eval s = v) (hown : w.ownsRow base e 2 v n xs)
    (H : Nat) (hx : a.eval x = .slice (some ⟨H, 0, none⟩) 1 1) (hc1 : w.cell? ⟨H, 0, none⟩ = some u1) (hc2 : w.cell? ⟨H, 1, none⟩ = some u2) (hu1 : u1.oneCell' = true) (hu2 : u2.oneCell' = true) (b1 : n + 1 ≤ 1000000) (b4 : base ≤ w.heap.size)
    (h : ∀ g cap w', w'.ownsRow base e 2 (.slice (some ⟨g, 0, none⟩) (n + 1) cap) (n + 1) (xs ++ [u1, u2]) → w.grownBy w' v.ownBlock → (v.ownBlock = some g ∨ g = w.heap.size) → wpList P ops Q rest (a.put o.dst (.slice (some ⟨g, 0, none⟩) (n + 1) cap)) w') :
    wpList P ops Q (o :: rest) a w := by
  refine wpList_plain hgd fun K hK => ?_
  obtain ⟨i, hi, hz0, hz1, hz2⟩ := info_parts hinfo
  refine wp_append_lies w s x t hop base e i z 2 bytes h1 hi hz0 hz1 hz2 hz (by decide) v n xs hs hown ⟨H, 0, none⟩ 1 1 [u1, u2] hx rfl ?_ ?_ (by decide) (by unfold maxLen; omega) ?_ b4 w.heap.size rfl ?_
  · intro j u' hj
    match j, hj with
    | 0, hj => simp at hj; subst hj; simpa [Addr.add] using hc1
    | 1, hj => simp at hj; subst hj; simpa [Addr.add] using hc2
  · intro u' h'
    rcases List.mem_cons.1 h' with rfl | h'
    · exact hu1
    · rw [List.mem_singleton.1 h']; exact hu2
  · have : (n + 1) * bytes ≤ 1000000 * 24 := Nat.mul_le_mul b1 b2
    omega
  · intro g cap w' ho hg hb _
    exact hK _ _ (h g cap w' ho hg hb)
end Go.Proofs.YtpcnoiigbmiejaaDoor.tab

/- Formulas in plain words: their texts, how a text is read, and how variables are put. -/
namespace Go.Proofs.YtpcnoiigbmiejaaDoor.fm
set_option linter.unusedVariables false
set_option linter.unusedSimpArgs false

inductive Fm where
  | tf (c : UInt8)
  | p (v : Nat)
  | r (o : UInt8) (v u : Nat)
  | no (a : Fm)
  | two (o : UInt8) (a b : Fm)
  | qu (o : UInt8) (v : Nat) (a : Fm)

/-- the letter of a variable -/
def vb (v : Nat) : UInt8 := UInt8.ofNat (97 + v)
def isV (c : UInt8) : Bool := decide (97 ≤ c.toNat ∧ c.toNat ≤ 100)
def vn (c : UInt8) : Nat := c.toNat - 97
theorem vb_nat {v : Nat} (h : v < 4) : (vb v).toNat = 97 + v := by
  unfold vb
  rw [UInt8.toNat_ofNat']
  omega
theorem vn_vb {v : Nat} (h : v < 4) : vn (vb v) = v := by unfold vn; rw [vb_nat h]; omega
theorem isV_vb {v : Nat} (h : v < 4) : isV (vb v) = true := by unfold isV; rw [vb_nat h]; exact decide_eq_true (by omega)
theorem vn_lt {c : UInt8} (h : isV c = true) : vn c < 4 := by have := of_decide_eq_true h; unfold vn; omega
theorem vb_vn {c : UInt8} (h : isV c = true) : vb (vn c) = c := by
  have := of_decide_eq_true h
  apply UInt8.toNat_inj.1
  rw [vb_nat (vn_lt h)]; unfold vn; omega
/-- the sorts of letters -/
inductive Sor where | tf | p | r | no | two | qu | bad
  deriving DecidableEq
def sort (c : UInt8) : Sor :=
  if c = 116 ∨ c = 102 then .tf else if c = 80 then .p else if c = 61 ∨ c = 69 then .r else if c = 33 then .no else if c = 38 ∨ c = 124 then .two
  else if c = 65 ∨ c = 83 ∨ c = 50 ∨ c = 51 ∨ c = 52 then .qu else .bad
theorem sort_p {c : UInt8} (hs : sort c = .p) : c = 80 := by
  unfold sort at hs
  split at hs
  · cases hs
  split at hs
  · assumption
  split at hs
  · cases hs
  split at hs
  · cases hs
  split at hs
  · cases hs
  split at hs <;> cases hs
theorem sort_no {c : UInt8} (hs : sort c = .no) : c = 33 := by
  unfold sort at hs
  split at hs
  · cases hs
  split at hs
  · cases hs
  split at hs
  · cases hs
  split at hs
  · assumption
  split at hs
  · cases hs
  split at hs <;> cases hs
def Fm.ok : Fm → Prop
  | .tf c => sort c = .tf
  | .p v => v < 4
  | .r o v u => sort o = .r ∧ v < 4 ∧ u < 4
  | .no a => a.ok
  | .two o a b => sort o = .two ∧ a.ok ∧ b.ok
  | .qu o v a => sort o = .qu ∧ v < 4 ∧ a.ok
def Fm.txt : Fm → List UInt8
  | .tf c => [c]
  | .p v => [80, vb v]
  | .r o v u => [o, vb v, vb u]
  | .no a => 33 :: a.txt
  | .two o a b => o :: (a.txt ++ b.txt)
  | .qu o v a => o :: vb v :: a.txt
/-- reading a text -/
def rd : Nat → List UInt8 → Option (Fm × List UInt8)
  | 0, _ => none
  | _, [] => none
  | n + 1, c :: l =>
    match sort c with
    | .tf => some (.tf c, l)
    | .p => match l with
      | v :: l' => if isV v = true then some (.p (vn v), l') else none
      | [] => none
    | .r => match l with
      | v :: u :: l' => if isV v = true ∧ isV u = true then some (.r c (vn v) (vn u), l') else none
      | _ => none
    | .no => match rd n l with
      | some (a, l') => some (.no a, l')
      | none => none
    | .two => match rd n l with
      | some (a, l1) => match rd n l1 with
        | some (b, l2) => some (.two c a b, l2)
        | none => none
      | none => none
    | .qu => match l with
      | v :: l' => if isV v = true then match rd n l' with
        | some (a, l2) => some (.qu c (vn v) a, l2)
        | none => none
        else none
      | [] => none
    | .bad => none
/-- what is read is there, and the rest is shorter -/
theorem rd_sound : ∀ {n : Nat} {l : List UInt8} {a : Fm} {t : List UInt8}, rd n l = some (a, t) → a.ok ∧ l = a.txt ++ t ∧ t.length < l.length
  | 0, _, _, _, h => by simp [rd] at h
  | n + 1, [], _, _, h => by simp [rd] at h
  | n + 1, c :: l, a, t, h => by
    unfold rd at h
    split at h
    · rename_i hs
      simp only [Option.some.injEq, Prod.mk.injEq] at h
      obtain ⟨rfl, rfl⟩ := h
      exact ⟨hs, rfl, by simp⟩
    · rename_i hs
      have hc : c = 80 := sort_p hs
      split at h
      · rename_i v l'
        split at h
        · rename_i hv
          simp only [Option.some.injEq, Prod.mk.injEq] at h
          obtain ⟨rfl, rfl⟩ := h
          exact ⟨vn_lt hv, by rw [hc, Fm.txt, vb_vn hv]; rfl, by simp; omega⟩
        · cases h
      · cases h
    · rename_i hs
      split at h
      · rename_i v u l'
        split at h
        · rename_i hv
          simp only [Option.some.injEq, Prod.mk.injEq] at h
          obtain ⟨rfl, rfl⟩ := h
          exact ⟨⟨hs, vn_lt hv.1, vn_lt hv.2⟩, by rw [Fm.txt, vb_vn hv.1, vb_vn hv.2]; rfl, by simp; omega⟩
        · cases h
      · cases h
    · rename_i hs
      have hc : c = 33 := sort_no hs
      split at h
      · rename_i b l' hb
        simp only [Option.some.injEq, Prod.mk.injEq] at h
        obtain ⟨rfl, rfl⟩ := h
        obtain ⟨h1, h2, h3⟩ := rd_sound hb
        exact ⟨h1, by rw [hc, h2]; rfl, by simp; omega⟩
      · cases h
    · rename_i hs
      split at h
      · rename_i b l1 hb
        split at h
        · rename_i d l2 hd
          simp only [Option.some.injEq, Prod.mk.injEq] at h
          obtain ⟨rfl, rfl⟩ := h
          obtain ⟨h1, h2, h3⟩ := rd_sound hb
          obtain ⟨g1, g2, g3⟩ := rd_sound hd
          exact ⟨⟨hs, h1, g1⟩, by rw [h2, g2]; simp [Fm.txt], by simp; omega⟩
        · cases h
      · cases h
    · rename_i hs
      split at h
      · rename_i v l'
        split at h
        · rename_i hv
          split at h
          · rename_i b l2 hb
            simp only [Option.some.injEq, Prod.mk.injEq] at h
            obtain ⟨rfl, rfl⟩ := h
            obtain ⟨h1, h2, h3⟩ := rd_sound hb
            exact ⟨⟨hs, vn_lt hv, h1⟩, by rw [h2]; simp [Fm.txt, vb_vn hv], by simp; omega⟩
          · cases h
        · cases h
      · cases h
    · cases h
/-- more fuel changes nothing -/
theorem rd_fuel : ∀ {n m : Nat} {l : List UInt8}, l.length ≤ n → l.length ≤ m → rd n l = rd m l
  | 0, 0, _, _, _ => rfl
  | 0, m + 1, [], _, _ => rfl
  | n + 1, 0, [], _, _ => rfl
  | n + 1, m + 1, [], _, _ => rfl
  | n + 1, m + 1, c :: l, hn, hm => by
    have a1 : l.length ≤ n := by simpa using hn
    have a2 : l.length ≤ m := by simpa using hm
    have e := rd_fuel a1 a2
    unfold rd
    rw [e]
    cases hs : sort c with
    | tf => rfl
    | p => rfl
    | r => rfl
    | no => rfl
    | two =>
      cases h1 : rd m l with
      | none => rfl
      | some x =>
        obtain ⟨b, l1⟩ := x
        have := (rd_sound h1).2.2
        simp only [rd_fuel (n := n) (m := m) (l := l1) (by omega) (by omega)]
    | qu =>
      cases l with
      | nil => rfl
      | cons v l' =>
        simp only [rd_fuel (n := n) (m := m) (l := l') (by simp at a1; omega) (by simp at a2; omega)]
    | bad => rfl
def read (l : List UInt8) : Option (Fm × List UInt8) := rd l.length l
theorem rd_read {n : Nat} {l : List UInt8} (h : l.length ≤ n) : rd n l = read l := rd_fuel h (Nat.le_refl _)
theorem read_nil : read [] = none := rfl
theorem read_tf {c : UInt8} {l : List UInt8} (h : sort c = .tf) : read (c :: l) = some (.tf c, l) := by unfold read rd; simp only [List.length_cons, h]
theorem read_bad {c : UInt8} {l : List UInt8} (h : sort c = .bad) : read (c :: l) = none := by unfold read rd; simp only [List.length_cons, h]
theorem read_p {c v : UInt8} {l : List UInt8} (h : sort c = .p) (hv : isV v = true) : read (c :: v :: l) = some (.p (vn v), l) := by unfold read rd; simp only [List.length_cons, h, hv, if_true]
theorem read_p0 {c : UInt8} (h : sort c = .p) : read [c] = none := by unfold read rd; simp only [List.length_cons, h]
theorem read_pn {c v : UInt8} {l : List UInt8} (h : sort c = .p) (hv : isV v = false) : read (c :: v :: l) = none := by unfold read rd; simp [h, hv]
theorem read_r {c v u : UInt8} {l : List UInt8} (h : sort c = .r) (hv : isV v = true) (hu : isV u = true) : read (c :: v :: u :: l) = some (.r c (vn v) (vn u), l) := by unfold read rd; simp [h, hv, hu]
theorem read_r0 {c : UInt8} (h : sort c = .r) : read [c] = none := by unfold read rd; simp [h]
theorem read_r1 {c v : UInt8} (h : sort c = .r) : read [c, v] = none := by unfold read rd; simp [h]
theorem read_rn {c v u : UInt8} {l : List UInt8} (h : sort c = .r) (hv : ¬ (isV v = true ∧ isV u = true)) : read (c :: v :: u :: l) = none := by unfold read rd; simp only [List.length_cons, h, if_neg hv]
theorem read_no {c : UInt8} {l : List UInt8} (h : sort c = .no) : read (c :: l) = match read l with | some (a, l') => some (.no a, l') | none => none := by
  conv => lhs; unfold read rd
  simp only [List.length_cons, h]; rw [rd_read (Nat.le_refl _)]
theorem read_two {c : UInt8} {l : List UInt8} (h : sort c = .two) : read (c :: l) = match read l with | some (a, l1) => (match read l1 with | some (b, l2) => some (.two c a b, l2) | none => none) | none => none := by
  conv => lhs; unfold read rd
  simp only [List.length_cons, h]; rw [rd_read (Nat.le_refl _)]
  cases h1 : read l with
  | none => rfl
  | some x =>
    obtain ⟨b, l1⟩ := x
    have := (rd_sound h1).2.2
    simp only [rd_read (n := l.length) (l := l1) (by omega)]
theorem read_qu {c v : UInt8} {l : List UInt8} (h : sort c = .qu) (hv : isV v = true) : read (c :: v :: l) = match read l with | some (a, l2) => some (.qu c (vn v) a, l2) | none => none := by
  conv => lhs; unfold read rd
  simp only [List.length_cons, h, hv, if_true]; rw [rd_read (by omega)]
theorem read_qu0 {c : UInt8} (h : sort c = .qu) : read [c] = none := by unfold read rd; simp [h]
theorem read_qun {c v : UInt8} {l : List UInt8} (h : sort c = .qu) (hv : isV v = false) : read (c :: v :: l) = none := by unfold read rd; simp [h, hv]
theorem read_sound {l : List UInt8} {a : Fm} {t : List UInt8} (h : read l = some (a, t)) : a.ok ∧ l = a.txt ++ t ∧ t.length < l.length := rd_sound h
/-- the free variables, as bits -/
def Fm.free : Fm → Nat
  | .tf _ => 0
  | .p v => 1 <<< v
  | .r _ v u => 1 <<< v ||| 1 <<< u
  | .no a => a.free
  | .two _ a b => a.free ||| b.free
  | .qu _ v a => a.free &&& (15 ^^^ 1 <<< v)
theorem or_lt : ∀ a : Fin 16, ∀ b : Fin 16, a.1 ||| b.1 < 16 := by decide
theorem and_lt : ∀ a : Fin 16, ∀ b : Fin 4, a.1 &&& (15 ^^^ 1 <<< b.1) < 16 := by decide
theorem sh_lt : ∀ b : Fin 4, 1 <<< b.1 < 16 := by decide
theorem Fm.free_lt : ∀ {a : Fm}, a.ok → a.free < 16
  | .tf _, _ => by simp [Fm.free]
  | .p v, h => sh_lt ⟨v, h⟩
  | .r _ v u, h => or_lt ⟨1 <<< v, sh_lt ⟨v, h.2.1⟩⟩ ⟨1 <<< u, sh_lt ⟨u, h.2.2⟩⟩
  | .no a, h => Fm.free_lt (a := a) h
  | .two _ a b, h => or_lt ⟨a.free, Fm.free_lt h.2.1⟩ ⟨b.free, Fm.free_lt h.2.2⟩
  | .qu _ v a, h => and_lt ⟨a.free, Fm.free_lt h.2.2⟩ ⟨v, h.2.1⟩
/-- whether v is in a set -/
def inS (s v : Nat) : Bool := s >>> v &&& 1 == 1
/-- the images of a set -/
def imgs (s : Nat) (m : Nat → Nat) : Nat → Nat
  | 0 => 0
  | k + 1 => if inS s k = true then imgs s m k ||| 1 <<< m k else imgs s m k
/-- the variable that a quantifier binds -/
def fresh (v s : Nat) (m : Nat → Nat) : Option Nat :=
  let t := imgs (s &&& (15 ^^^ 1 <<< v)) m 4
  if inS t v = false then some v else (List.range 4).find? fun w => !inS t w
def upd (m : Nat → Nat) (v u : Nat) : Nat → Nat := fun x => if x = v then u else m x
/-- putting variables -/
def put0 : Fm → (Nat → Nat) → Option (List UInt8)
  | .tf c, _ => some [c]
  | .p v, m => some [80, vb (m v)]
  | .r o v u, m => some [o, vb (m v), vb (m u)]
  | .no a, m => match put0 a m with
    | some x => some (33 :: x)
    | none => none
  | .two o a b, m => match put0 a m, put0 b m with
    | some x, some y => some (o :: (x ++ y))
    | _, _ => none
  | .qu o v a, m => match fresh v a.free m with
    | some u => match put0 a (upd m v u) with
      | some x => some (o :: vb u :: x)
      | none => none
    | none => none
def map1 (v : Nat) : Nat → Nat := fun x => if x = 0 then v else 0
def map2 (v u : Nat) : Nat → Nat := fun x => if x = 0 then v else if x = 1 then u else 0
/-- putting variables, and views in place of atoms -/
def put (S R : Option Fm) : Fm → (Nat → Nat) → Option (List UInt8)
  | .tf c, _ => some [c]
  | .p v, m => match S with
    | some s => put0 s (map1 (m v))
    | none => some [80, vb (m v)]
  | .r o v u, m => match R with
    | some s => if o = 69 then put0 s (map2 (m v) (m u)) else some [o, vb (m v), vb (m u)]
    | none => some [o, vb (m v), vb (m u)]
  | .no a, m => match put S R a m with
    | some x => some (33 :: x)
    | none => none
  | .two o a b, m => match put S R a m, put S R b m with
    | some x, some y => some (o :: (x ++ y))
    | _, _ => none
  | .qu o v a, m => match fresh v a.free m with
    | some u => match put S R a (upd m v u) with
      | some x => some (o :: vb u :: x)
      | none => none
    | none => none
theorem put_none : ∀ (a : Fm) (m : Nat → Nat), put none none a m = put0 a m
  | .tf _, _ => rfl
  | .p _, _ => rfl
  | .r _ _ _, _ => rfl
  | .no a, m => by unfold put put0; rw [put_none a m]
  | .two _ a b, m => by unfold put put0; rw [put_none a m, put_none b m]
  | .qu _ v a, m => by
    unfold put put0
    cases fresh v a.free m with
    | none => rfl
    | some u => simp only [put_none a (upd m v u)]
/-- putting hangs on the free variables alone -/
theorem imgs_congr {s : Nat} {m m' : Nat → Nat} : ∀ {k : Nat}, (∀ x, x < k → inS s x = true → m x = m' x) → imgs s m k = imgs s m' k
  | 0, _ => rfl
  | k + 1, h => by
    unfold imgs
    rw [imgs_congr fun x hx => h x (by omega)]
    split
    · rename_i hk; rw [h k (by omega) hk]
    · rfl
end Go.Proofs.YtpcnoiigbmiejaaDoor.fm

/- Formulas in the reference: reading. -/
namespace Go.Proofs.YtpcnoiigbmiejaaDoor.fms
set_option linter.unusedVariables false
set_option linter.unusedSimpArgs false
open Go.ChangeShapes Go.WideShapes Go.ChangeAt Go.RowKit
open Go.Proofs.YtpcnoiigbmiejaaDoor.lib Go.Proofs.YtpcnoiigbmiejaaDoor.fm

/-- where a letter first stands -/
def fnd (s : ByteArray) (c : Nat) : Int := match s.data.toList.findIdx? (fun x => x.toNat == c) with
  | some i => (i : Int)
  | none => -1
theorem get_at {f : ByteArray} {k : Nat} (h : k < f.size) : f.data.toList[k]? = some f[k] := by
  rw [List.getElem?_eq_getElem (by simpa using h)]; rfl
set_option maxRecDepth 20000 in
theorem fnd_abcd0 : ∀ c : Fin 256, fnd ⟨#[97, 98, 99, 100]⟩ c.1 = if 97 ≤ c.1 ∧ c.1 ≤ 100 then ((c.1 - 97 : Nat) : Int) else -1 := by decide
theorem fnd_yes {c : UInt8} (h : isV c = true) : fnd ⟨#[97, 98, 99, 100]⟩ c.toNat = (vn c : Nat) := by
  have := fnd_abcd0 ⟨c.toNat, c.toNat_lt⟩
  rw [if_pos (of_decide_eq_true h)] at this
  exact this
theorem fnd_no {c : UInt8} (h : isV c = false) : fnd ⟨#[97, 98, 99, 100]⟩ c.toNat = -1 := by
  have := fnd_abcd0 ⟨c.toNat, c.toNat_lt⟩
  rw [if_neg (of_decide_eq_false h)] at this
  exact this
set_option maxRecDepth 20000 in
theorem fnd_q0 : ∀ c : Fin 256, decide (0 ≤ fnd ⟨#[65, 83, 50, 51, 52]⟩ c.1) = decide (c.1 = 65 ∨ c.1 = 83 ∨ c.1 = 50 ∨ c.1 = 51 ∨ c.1 = 52) := by decide
/-- the variable at a place -/
def varI (f : ByteArray) (k : Nat) : Int := match f.data.toList[k]? with
  | some c => if isV c = true then (vn c : Nat) else -1
  | none => -1
end Go.Proofs.YtpcnoiigbmiejaaDoor.fms

/- Formulas in the reference: where one ends, in plain words. -/
namespace Go.Proofs.YtpcnoiigbmiejaaDoor.fmp
set_option linter.unusedVariables false
set_option linter.unusedSimpArgs false
open Go.ChangeShapes Go.WideShapes Go.ChangeAt Go.RowKit
open Go.Proofs.YtpcnoiigbmiejaaDoor.lib Go.Proofs.YtpcnoiigbmiejaaDoor.fm Go.Proofs.YtpcnoiigbmiejaaDoor.fms

/-- where the formula that begins at k ends -/
def endI (f : ByteArray) (k : Nat) : Int := match read (f.data.toList.drop k) with
  | some (_, t) => ((f.size - t.length : Nat) : Int)
  | none => -1
theorem lsz (f : ByteArray) : f.data.toList.length = f.size := by simp
theorem drop_at {f : ByteArray} {k : Nat} (h : k < f.size) : f.data.toList.drop k = f[k] :: f.data.toList.drop (k + 1) := by
  rw [List.drop_eq_getElem_cons (by simpa using h)]; rfl
theorem tail_of {f : ByteArray} {k : Nat} {t : List UInt8} (h : t <:+ f.data.toList.drop k) : t = f.data.toList.drop (f.size - t.length) := by
  obtain ⟨p, hp⟩ := h
  have hl := congrArg List.length hp
  rw [List.length_append, List.length_drop, lsz] at hl
  have h2 : t = (f.data.toList.drop k).drop p.length := by rw [← hp]; simp
  by_cases ht : t.length = 0
  · have : t = [] := List.length_eq_zero_iff.1 ht
    rw [this, List.length_nil, Nat.sub_zero, List.drop_of_length_le (by rw [lsz]; omega)]
  rw [List.drop_drop] at h2
  rw [show f.size - t.length = k + p.length from by omega]
  exact h2
theorem read_suff {l t : List UInt8} {a : Fm} (h : read l = some (a, t)) : t <:+ l := ⟨a.txt, (read_sound h).2.1.symm⟩
theorem end_top {f : ByteArray} : endI f f.size = -1 := by unfold endI; rw [List.drop_of_length_le (by rw [lsz]; exact Nat.le_refl _), read_nil]
theorem varI_of {f : ByteArray} {k : Nat} (h : k < f.size) : varI f k = if isV f[k] = true then ((vn f[k] : Nat) : Int) else -1 := by unfold varI; rw [fms.get_at h]
theorem varI_top {f : ByteArray} {k : Nat} (h : f.size ≤ k) : varI f k = -1 := by unfold varI; rw [List.getElem?_eq_none (by rw [lsz]; exact h)]
theorem case_tf {f : ByteArray} {k : Nat} (h : k < f.size) (hs : sort f[k] = .tf) : endI f k = ((k + 1 : Nat) : Int) := by
  unfold endI
  rw [drop_at h, read_tf hs]
  show ((f.size - (f.data.toList.drop (k + 1)).length : Nat) : Int) = _
  rw [List.length_drop, lsz]
  congr 1; omega
theorem case_bad {f : ByteArray} {k : Nat} (h : k < f.size) (hs : sort f[k] = .bad) : endI f k = -1 := by
  unfold endI
  rw [drop_at h, read_bad hs]
theorem case_p {f : ByteArray} {k : Nat} (h : k < f.size) (hs : sort f[k] = .p) : (∃ m : Nat, varI f (k + 1) = m ∧ endI f k = ((k + 2 : Nat) : Int)) ∨ (varI f (k + 1) = -1 ∧ endI f k = -1) := by
  unfold endI
  rw [drop_at h]
  by_cases h1 : k + 1 < f.size
  · rw [drop_at h1, varI_of h1]
    cases hv : isV f[k + 1] with
    | true =>
      refine .inl ⟨_, by rw [if_pos rfl], ?_⟩
      rw [read_p hs hv]
      show ((f.size - (f.data.toList.drop (k + 1 + 1)).length : Nat) : Int) = _
      rw [List.length_drop, lsz]
      congr 1; omega
    | false => exact .inr ⟨by simp, by rw [read_pn hs hv]⟩
  · rw [List.drop_of_length_le (by rw [lsz]; omega), read_p0 hs]
    exact .inr ⟨varI_top (by omega), rfl⟩
theorem case_r {f : ByteArray} {k : Nat} (h : k < f.size) (hs : sort f[k] = .r) : (∃ m n : Nat, varI f (k + 1) = m ∧ varI f (k + 2) = n ∧ endI f k = ((k + 3 : Nat) : Int)) ∨ (varI f (k + 1) = -1 ∧ endI f k = -1) ∨ (∃ m : Nat, varI f (k + 1) = m ∧ varI f (k + 2) = -1 ∧ endI f k = -1) := by
  unfold endI
  rw [drop_at h]
  by_cases h1 : k + 1 < f.size
  · rw [drop_at h1, varI_of h1]
    by_cases h2 : k + 2 < f.size
    · rw [drop_at (f := f) (k := k + 1 + 1) h2, varI_of h2]
      cases hv : isV f[k + 1] with
      | true =>
        cases hu : isV f[k + 2] with
        | true =>
          refine .inl ⟨_, _, by rw [if_pos rfl], by rw [if_pos rfl], ?_⟩
          rw [read_r hs hv hu]
          show ((f.size - (f.data.toList.drop (k + 1 + 1 + 1)).length : Nat) : Int) = _
          rw [List.length_drop, lsz]
          congr 1; omega
        | false => exact .inr (.inr ⟨_, by rw [if_pos rfl], by simp, by rw [read_rn hs (fun ⟨_, x⟩ => by rw [hu] at x; cases x)]⟩)
      | false => exact .inr (.inl ⟨by simp, by rw [read_rn hs (fun ⟨x, _⟩ => by rw [hv] at x; cases x)]⟩)
    · rw [List.drop_of_length_le (i := k + 1 + 1) (by rw [lsz]; omega), read_r1 hs, varI_top (k := k + 2) (by omega)]
      cases hv : isV f[k + 1] with
      | true => exact .inr (.inr ⟨_, by rw [if_pos rfl], rfl, rfl⟩)
      | false => exact .inr (.inl ⟨by simp, rfl⟩)
  · rw [List.drop_of_length_le (by rw [lsz]; omega), read_r0 hs]
    exact .inr (.inl ⟨varI_top (by omega), rfl⟩)
theorem case_no {f : ByteArray} {k : Nat} (h : k < f.size) (hs : sort f[k] = .no) : endI f k = endI f (k + 1) := by
  unfold endI
  rw [drop_at h, read_no hs]
  cases read (f.data.toList.drop (k + 1)) with
  | none => rfl
  | some x => rfl
theorem case_two {f : ByteArray} {k : Nat} (h : k < f.size) (hs : sort f[k] = .two) : (endI f (k + 1) = -1 ∧ endI f k = -1) ∨ (∃ j : Nat, endI f (k + 1) = j ∧ k < j ∧ j ≤ f.size ∧ endI f k = endI f j) := by
  have he : endI f k = match read (f[k] :: f.data.toList.drop (k + 1)) with
    | some (_, t) => ((f.size - t.length : Nat) : Int)
    | none => -1 := by conv => lhs; unfold endI; rw [drop_at h]
  rw [he, read_two hs]
  cases h1 : read (f.data.toList.drop (k + 1)) with
  | none => exact .inl ⟨by unfold endI; rw [h1], rfl⟩
  | some x =>
    obtain ⟨a, t⟩ := x
    have h2 := (read_sound h1).2.2
    rw [List.length_drop, lsz] at h2
    have h3 := tail_of (read_suff h1)
    refine .inr ⟨f.size - t.length, by unfold endI; rw [h1], by omega, by omega, ?_⟩
    unfold endI
    rw [← h3]
    cases h9 : read t with
    | none => simp only [h9]
    | some x => simp only [h9]
theorem case_qu {f : ByteArray} {k : Nat} (h : k < f.size) (hs : sort f[k] = .qu) : (varI f (k + 1) = -1 ∧ endI f k = -1) ∨ (∃ m : Nat, varI f (k + 1) = m ∧ k + 2 ≤ f.size ∧ endI f k = endI f (k + 2)) := by
  unfold endI
  rw [drop_at h]
  by_cases h1 : k + 1 < f.size
  · rw [drop_at h1, varI_of h1]
    cases hv : isV f[k + 1] with
    | true =>
      refine .inr ⟨_, by rw [if_pos rfl], by omega, ?_⟩
      rw [read_qu hs hv]
      show _ = match read (f.data.toList.drop (k + 1 + 1)) with
        | some (_, t) => ((f.size - t.length : Nat) : Int)
        | none => -1
      cases read (f.data.toList.drop (k + 1 + 1)) with
      | none => rfl
      | some x => rfl
    | false => exact .inl ⟨by simp, by rw [read_qun hs hv]⟩
  · rw [List.drop_of_length_le (by rw [lsz]; omega), read_qu0 hs]
    exact .inl ⟨varI_top (by omega), rfl⟩
theorem sort_of {c : UInt8} {s : Sor} (n : Nat) (h : c.toNat = n) (hn : sort (UInt8.ofNat n) = s) : sort c = s := by
  rw [← hn, ← h, UInt8.ofNat_toNat]
theorem sort_none {c : UInt8} (h : ∀ n, n ∈ [116, 102, 80, 61, 69, 33, 38, 124, 65, 83, 50, 51, 52] → c.toNat ≠ n) : sort c = .bad := by
  have e : ∀ n : Nat, n ∈ [116, 102, 80, 61, 69, 33, 38, 124, 65, 83, 50, 51, 52] → n < 256 → c ≠ UInt8.ofNat n := fun n hn h2 hc => h n hn (by rw [hc, UInt8.toNat_ofNat']; exact Nat.mod_eq_of_lt h2)
  unfold sort
  rw [if_neg (by rintro (h | h) <;> first | exact e 116 (by decide) (by decide) h | exact e 102 (by decide) (by decide) h), if_neg (show ¬ c = 80 from e 80 (by decide) (by decide)), if_neg (by rintro (h | h) <;> first | exact e 61 (by decide) (by decide) h | exact e 69 (by decide) (by decide) h), if_neg (show ¬ c = 33 from e 33 (by decide) (by decide)), if_neg (by rintro (h | h) <;> first | exact e 38 (by decide) (by decide) h | exact e 124 (by decide) (by decide) h), if_neg (by rintro (h | h | h | h | h) <;> first | exact e 65 (by decide) (by decide) h | exact e 83 (by decide) (by decide) h | exact e 50 (by decide) (by decide) h | exact e 51 (by decide) (by decide) h | exact e 52 (by decide) (by decide) h)]
/-- FormulaValid -/
def fmB (f : ByteArray) : Bool := decide (f.size ≤ 4000) && decide (endI f 0 = (f.size : Int))
end Go.Proofs.YtpcnoiigbmiejaaDoor.fmp

/- Formulas in the reference: what a text that is read says, place by place. -/
namespace Go.Proofs.YtpcnoiigbmiejaaDoor.fmq
set_option linter.unusedVariables false
set_option linter.unusedSimpArgs false
open Go.ChangeShapes Go.WideShapes Go.ChangeAt Go.RowKit
open Go.Proofs.YtpcnoiigbmiejaaDoor.lib Go.Proofs.YtpcnoiigbmiejaaDoor.fm Go.Proofs.YtpcnoiigbmiejaaDoor.fms Go.Proofs.YtpcnoiigbmiejaaDoor.fmp

/-- the formula a stands in f from k up to e -/
def At (f : ByteArray) (k : Nat) (a : Fm) (e : Nat) : Prop := e ≤ f.size ∧ read (f.data.toList.drop k) = some (a, f.data.toList.drop e)
theorem drop_inj {f : ByteArray} {i j : Nat} (hi : i ≤ f.size) (hj : j ≤ f.size) (h : f.data.toList.drop i = f.data.toList.drop j) : i = j := by
  have := congrArg List.length h
  rw [List.length_drop, List.length_drop, lsz] at this
  omega
theorem At.lt {f : ByteArray} {k e : Nat} {a : Fm} (h : At f k a e) : k < f.size ∧ k < e := by
  have h2 := (read_sound h.2).2.2
  rw [List.length_drop, List.length_drop, lsz] at h2
  have := h.1
  omega
theorem At.ok {f : ByteArray} {k e : Nat} {a : Fm} (h : At f k a e) : a.ok := (read_sound h.2).1
theorem At.of {f : ByteArray} {k : Nat} {a : Fm} {t : List UInt8} (h : read (f.data.toList.drop k) = some (a, t)) : ∃ e, At f k a e ∧ t = f.data.toList.drop e := by
  have h3 := tail_of (read_suff h)
  exact ⟨f.size - t.length, ⟨Nat.sub_le _ _, by rw [h, ← h3]⟩, h3⟩
theorem inv_tf {f : ByteArray} {k e : Nat} {a : Fm} (h : k < f.size) (hr : At f k a e) (hs : sort f[k] = .tf) : a = .tf f[k] ∧ e = k + 1 := by
  obtain ⟨he, hr⟩ := hr
  rw [drop_at h, read_tf hs] at hr
  simp only [Option.some.injEq, Prod.mk.injEq] at hr
  exact ⟨hr.1.symm, (drop_inj (by omega) he hr.2).symm⟩
theorem inv_bad {f : ByteArray} {k e : Nat} {a : Fm} (h : k < f.size) (hr : At f k a e) (hs : sort f[k] = .bad) : False := by
  have hr := hr.2
  rw [drop_at h, read_bad hs] at hr
  cases hr
theorem inv_p {f : ByteArray} {k e : Nat} {a : Fm} (h : k < f.size) (hr : At f k a e) (hs : sort f[k] = .p) : ∃ m, m < 4 ∧ varI f (k + 1) = (m : Nat) ∧ a = .p m ∧ e = k + 2 := by
  obtain ⟨he, hr⟩ := hr
  rw [drop_at h] at hr
  by_cases h1 : k + 1 < f.size
  · rw [drop_at h1] at hr
    cases hv : isV f[k + 1] with
    | true =>
      rw [read_p hs hv] at hr
      simp only [Option.some.injEq, Prod.mk.injEq] at hr
      exact ⟨_, vn_lt hv, by rw [varI_of h1, if_pos hv], hr.1.symm, (drop_inj (by omega) he hr.2).symm⟩
    | false => rw [read_pn hs hv] at hr; cases hr
  · rw [List.drop_of_length_le (i := k + 1) (by rw [lsz]; omega), read_p0 hs] at hr; cases hr
theorem inv_r {f : ByteArray} {k e : Nat} {a : Fm} (h : k < f.size) (hr : At f k a e) (hs : sort f[k] = .r) : ∃ m m2, m < 4 ∧ m2 < 4 ∧ varI f (k + 1) = (m : Nat) ∧ varI f (k + 2) = (m2 : Nat) ∧ a = .r f[k] m m2 ∧ e = k + 3 := by
  obtain ⟨he, hr⟩ := hr
  rw [drop_at h] at hr
  by_cases h1 : k + 1 < f.size
  · rw [drop_at h1] at hr
    by_cases h2 : k + 2 < f.size
    · rw [drop_at (f := f) (k := k + 1 + 1) h2] at hr
      by_cases hv : isV f[k + 1] = true ∧ isV f[k + 2] = true
      · rw [read_r hs hv.1 hv.2] at hr
        simp only [Option.some.injEq, Prod.mk.injEq] at hr
        exact ⟨_, _, vn_lt hv.1, vn_lt hv.2, by rw [varI_of h1, if_pos hv.1], by rw [varI_of h2, if_pos hv.2], hr.1.symm, (drop_inj (by omega) he hr.2).symm⟩
      · rw [read_rn hs hv] at hr; cases hr
    · rw [List.drop_of_length_le (i := k + 1 + 1) (by rw [lsz]; omega), read_r1 hs] at hr; cases hr
  · rw [List.drop_of_length_le (i := k + 1) (by rw [lsz]; omega), read_r0 hs] at hr; cases hr
theorem inv_no {f : ByteArray} {k e : Nat} {a : Fm} (h : k < f.size) (hr : At f k a e) (hs : sort f[k] = .no) : ∃ b, At f (k + 1) b e ∧ a = .no b := by
  obtain ⟨he, hr⟩ := hr
  rw [drop_at h, read_no hs] at hr
  cases h1 : read (f.data.toList.drop (k + 1)) with
  | none => rw [h1] at hr; cases hr
  | some x =>
    obtain ⟨b, t⟩ := x
    rw [h1] at hr
    simp only [Option.some.injEq, Prod.mk.injEq] at hr
    exact ⟨b, ⟨he, by rw [h1, hr.2]⟩, hr.1.symm⟩
theorem inv_two {f : ByteArray} {k e : Nat} {a : Fm} (h : k < f.size) (hr : At f k a e) (hs : sort f[k] = .two) : ∃ b d j, At f (k + 1) b j ∧ At f j d e ∧ a = .two f[k] b d := by
  obtain ⟨he, hr⟩ := hr
  rw [drop_at h, read_two hs] at hr
  cases h1 : read (f.data.toList.drop (k + 1)) with
  | none => rw [h1] at hr; cases hr
  | some x =>
    obtain ⟨b, t⟩ := x
    obtain ⟨j, hj, ht⟩ := At.of h1
    rw [h1] at hr
    cases h2 : read t with
    | none => simp only [h2] at hr; cases hr
    | some y =>
      obtain ⟨d, t2⟩ := y
      simp only [h2, Option.some.injEq, Prod.mk.injEq] at hr
      exact ⟨b, d, j, hj, ⟨he, by rw [← ht, h2, hr.2]⟩, hr.1.symm⟩
theorem inv_qu {f : ByteArray} {k e : Nat} {a : Fm} (h : k < f.size) (hr : At f k a e) (hs : sort f[k] = .qu) : ∃ m b, m < 4 ∧ varI f (k + 1) = (m : Nat) ∧ At f (k + 2) b e ∧ a = .qu f[k] m b := by
  obtain ⟨he, hr⟩ := hr
  rw [drop_at h] at hr
  by_cases h1 : k + 1 < f.size
  · rw [drop_at h1] at hr
    cases hv : isV f[k + 1] with
    | true =>
      rw [read_qu hs hv] at hr
      cases h2 : read (f.data.toList.drop (k + 1 + 1)) with
      | none => rw [h2] at hr; cases hr
      | some x =>
        obtain ⟨b, t⟩ := x
        rw [h2] at hr
        simp only [Option.some.injEq, Prod.mk.injEq] at hr
        exact ⟨_, b, vn_lt hv, by rw [varI_of h1, if_pos hv], ⟨he, by rw [show k + 2 = k + 1 + 1 from rfl, h2, hr.2]⟩, hr.1.symm⟩
    | false => rw [read_qun hs hv] at hr; cases hr
  · rw [List.drop_of_length_le (i := k + 1) (by rw [lsz]; omega), read_qu0 hs] at hr; cases hr
theorem At.endI {f : ByteArray} {k e : Nat} {a : Fm} (h : At f k a e) : endI f k = (e : Nat) := by
  unfold fmp.endI
  rw [h.2]
  show ((f.size - (f.data.toList.drop e).length : Nat) : Int) = _
  rw [List.length_drop, lsz]
  have := h.1
  congr 1; omega
theorem fmB_iff {f : ByteArray} : fmB f = true ↔ f.size ≤ 4000 ∧ ∃ a, At f 0 a f.size := by
  unfold fmB
  rw [Bool.and_eq_true, decide_eq_true_eq, decide_eq_true_eq]
  refine and_congr_right fun _ => ⟨fun h => ?_, fun ⟨a, h⟩ => h.endI⟩
  cases hr : read (f.data.toList.drop 0) with
  | none => unfold fmp.endI at h; rw [hr] at h; simp at h
  | some x =>
    obtain ⟨a, t⟩ := x
    obtain ⟨e, he, _⟩ := At.of hr
    rw [he.endI] at h
    obtain rfl : e = f.size := by omega
    exact ⟨a, he⟩
end Go.Proofs.YtpcnoiigbmiejaaDoor.fmq

/- Formulas in the program: parsed formulas in memory. -/
namespace Go.Proofs.YtpcnoiigbmiejaaDoor.fmt
set_option linter.unusedVariables false
set_option linter.unusedSimpArgs false
open Go.ChangeShapes Go.WideShapes Go.ChangeAt Go.RowKit
open Go.Proofs.YtpcnoiigbmiejaaDoor.lib Go.Proofs.YtpcnoiigbmiejaaDoor.fm

/-- all variables, as bits -/
def Fm.all : Fm → Nat
  | .tf _ => 0
  | .p v => 1 <<< v
  | .r _ v u => 1 <<< v ||| 1 <<< u
  | .no a => Fm.all a
  | .two _ a b => Fm.all a ||| Fm.all b
  | .qu _ v a => 1 <<< v ||| Fm.all a
theorem Fm.all_lt : ∀ {a : Fm}, a.ok → Fm.all a < 16
  | .tf _, _ => by simp [Fm.all]
  | .p v, h => sh_lt ⟨v, h⟩
  | .r _ v u, h => or_lt ⟨1 <<< v, sh_lt ⟨v, h.2.1⟩⟩ ⟨1 <<< u, sh_lt ⟨u, h.2.2⟩⟩
  | .no a, h => Fm.all_lt (a := a) h
  | .two _ a b, h => or_lt ⟨Fm.all a, Fm.all_lt h.2.1⟩ ⟨Fm.all b, Fm.all_lt h.2.2⟩
  | .qu _ v a, h => or_lt ⟨1 <<< v, sh_lt ⟨v, h.2.1⟩⟩ ⟨Fm.all a, Fm.all_lt h.2.2⟩
/-- v is a slice that reads as l -/
def RV (w : World) (v : Value) (l : List Value) : Prop :=
  ∃ ao cap, v = .slice ao l.length cap ∧ (l = [] ∨ ∃ b off, ao = some ⟨b, off, none⟩ ∧ ∀ i (h : i < l.length), w.cell? ⟨b, off + i, none⟩ = some l[i])
theorem RV.below {w w' : World} {C : Nat} {v : Value} {l : List Value} (h : RV w v l) (hb : Below C w w') (hC : w.heap.size ≤ C) : RV w' v l := by
  obtain ⟨ao, cap, hv, h⟩ := h
  refine ⟨ao, cap, hv, ?_⟩
  rcases h with h | ⟨b, off, ha, hc⟩
  · exact .inl h
  · refine .inr ⟨b, off, ha, fun i hi => ?_⟩
    have h1 := hc i hi
    have hlt := World.block_lt_of_cell? w ⟨b, off + i, none⟩ h1
    rw [hb.cell (p := ⟨b, off + i, none⟩) (Nat.lt_of_lt_of_le hlt hC)]
    exact h1
/-- a node: operator, variables, parts, the sets -/
def Node (T : TypeId) (w : World) (H : Nat) (op : UInt8) (vs ps : List Nat) (fr al : Nat) : Prop :=
  ∃ vv pv, w.heap[H]? = some (.cells #[.int .u8 op.toNat, vv, pv, .int .i64 fr, .int .i64 al] T (0, 0)) ∧ RV w vv (vs.map fun v => .int .u8 (vb v).toNat) ∧ RV w pv (ps.map fun k => .pointer (some ⟨k, 0, none⟩))
theorem Node.lt {T : TypeId} {w : World} {H : Nat} {op : UInt8} {vs ps : List Nat} {fr al : Nat} (h : Node T w H op vs ps fr al) : H < w.heap.size := by
  obtain ⟨_, _, h, _⟩ := h
  exact (Array.getElem?_eq_some_iff.1 h).1
theorem Node.below {T : TypeId} {w w' : World} {C H : Nat} {op : UInt8} {vs ps : List Nat} {fr al : Nat} (h : Node T w H op vs ps fr al) (hb : Below C w w') (hC : w.heap.size ≤ C) : Node T w' H op vs ps fr al := by
  have hlt := h.lt
  obtain ⟨vv, pv, h1, h2, h3⟩ := h
  exact ⟨vv, pv, by rw [hb.block H (by omega)]; exact h1, h2.below hb hC, h3.below hb hC⟩
/-- the formula a lies in memory from block H on -/
def Tree (T : TypeId) (w : World) : Fm → Nat → Prop
  | .tf c, H => Node T w H c [] [] 0 0
  | .p v, H => Node T w H 80 [v] [] (1 <<< v) (1 <<< v)
  | .r o v u, H => Node T w H o [v, u] [] (1 <<< v ||| 1 <<< u) (1 <<< v ||| 1 <<< u)
  | .no a, H => ∃ K, Tree T w a K ∧ Node T w H 33 [] [K] a.free (Fm.all a)
  | .two o a b, H => ∃ K L, Tree T w a K ∧ Tree T w b L ∧ Node T w H o [] [K, L] (a.free ||| b.free) (Fm.all a ||| Fm.all b)
  | .qu o v a, H => ∃ K, Tree T w a K ∧ Node T w H o [v] [K] (a.free &&& (15 ^^^ 1 <<< v)) (1 <<< v ||| Fm.all a)
theorem Tree.below {T : TypeId} {w w' : World} {C : Nat} (hb : Below C w w') (hC : w.heap.size ≤ C) : ∀ {a : Fm} {H : Nat}, Tree T w a H → Tree T w' a H
  | .tf _, _, h => Node.below h hb hC
  | .p _, _, h => Node.below h hb hC
  | .r _ _ _, _, h => Node.below h hb hC
  | .no _, _, ⟨K, h1, h2⟩ => ⟨K, Tree.below hb hC h1, h2.below hb hC⟩
  | .two _ _ _, _, ⟨K, L, h1, h2, h3⟩ => ⟨K, L, Tree.below hb hC h1, Tree.below hb hC h2, h3.below hb hC⟩
  | .qu _ _ _, _, ⟨K, h1, h2⟩ => ⟨K, Tree.below hb hC h1, h2.below hb hC⟩
/-- the node of a tree: its set of free variables -/
theorem Tree.free {T : TypeId} {w : World} : ∀ {a : Fm} {H : Nat}, Tree T w a H → ∃ op vs ps, Node T w H op vs ps a.free (Fm.all a)
  | .tf _, _, h => ⟨_, _, _, h⟩
  | .p _, _, h => ⟨_, _, _, h⟩
  | .r _ _ _, _, h => ⟨_, _, _, h⟩
  | .no _, _, ⟨_, _, h⟩ => ⟨_, _, _, h⟩
  | .two _ _ _, _, ⟨_, _, _, _, h⟩ => ⟨_, _, _, h⟩
  | .qu _ _ _, _, ⟨_, _, h⟩ => ⟨_, _, _, h⟩
theorem Node.cells {T : TypeId} {w : World} {H : Nat} {op : UInt8} {vs ps : List Nat} {fr al : Nat} (h : Node T w H op vs ps fr al) :
    ∃ vv pv, RV w vv (vs.map fun v => .int .u8 (vb v).toNat) ∧ RV w pv (ps.map fun k => .pointer (some ⟨k, 0, none⟩)) ∧ w.cell? ⟨H, 0, none⟩ = some (.int .u8 op.toNat) ∧ w.cell? ⟨H, 1, none⟩ = some vv ∧ w.cell? ⟨H, 2, none⟩ = some pv ∧ w.cell? ⟨H, 3, none⟩ = some (.int .i64 fr) ∧ w.cell? ⟨H, 4, none⟩ = some (.int .i64 al) := by
  obtain ⟨vv, pv, h1, h2, h3⟩ := h
  refine ⟨vv, pv, h2, h3, ?_, ?_, ?_, ?_, ?_⟩ <;> simp [World.cell?, h1]
/-- the same in the blocks from lo up to hi -/
def Agree (lo hi : Nat) (w w' : World) : Prop := ∀ b, lo ≤ b → b < hi → w'.heap[b]? = w.heap[b]?
/-- the formula a lies from H on, within the blocks from lo up to hi -/
def TS (T : TypeId) (lo hi : Nat) (w : World) (a : Fm) (H : Nat) : Prop := ∀ w', Agree lo hi w w' → Tree T w' a H
theorem TS.tree {T : TypeId} {lo hi : Nat} {w : World} {a : Fm} {H : Nat} (h : TS T lo hi w a H) : Tree T w a H := h w fun _ _ _ => rfl
theorem TS.to {T : TypeId} {lo hi : Nat} {w w' : World} {a : Fm} {H : Nat} (h : TS T lo hi w a H) (hg : Agree lo hi w w') : TS T lo hi w' a H := fun w2 h2 => h w2 fun b h3 h4 => (h2 b h3 h4).trans (hg b h3 h4)
theorem Agree.of_below {lo hi C : Nat} {w w' : World} (hb : Below C w w') (hC : hi ≤ C) : Agree lo hi w w' := fun b _ h => hb.block b (by omega)
theorem node_new {T : TypeId} {w w2 : World} {op : UInt8} (h : Agree w.heap.size (w.alloc (.cells #[.int .u8 op.toNat, .slice none 0 0, .slice none 0 0, .int .i64 0, .int .i64 0] T)).heap.size (w.alloc (.cells #[.int .u8 op.toNat, .slice none 0 0, .slice none 0 0, .int .i64 0, .int .i64 0] T)) w2) : Node T w2 w.heap.size op [] [] 0 0 :=
  ⟨_, _, (h _ (Nat.le_refl _) (by simp)).trans (heap_alloc_new w _), ⟨none, 0, rfl, .inl rfl⟩, ⟨none, 0, rfl, .inl rfl⟩⟩
end Go.Proofs.YtpcnoiigbmiejaaDoor.fmt

/- Formulas in plain words: what putting hangs on, lengths, relativizing. -/
namespace Go.Proofs.YtpcnoiigbmiejaaDoor.fm
set_option linter.unusedVariables false
set_option linter.unusedSimpArgs false
/-- the variables of a set without one -/
theorem inS_or : ∀ a : Fin 16, ∀ b : Fin 16, ∀ x : Fin 4, inS (a.1 ||| b.1) x.1 = (inS a.1 x.1 || inS b.1 x.1) := by decide
theorem inS_sh : ∀ a : Fin 4, ∀ x : Fin 4, inS (1 <<< a.1) x.1 = decide (a.1 = x.1) := by decide
theorem inS_an : ∀ a : Fin 16, ∀ b : Fin 4, ∀ x : Fin 4, inS (a.1 &&& (15 ^^^ 1 <<< b.1)) x.1 = (inS a.1 x.1 && !decide (x.1 = b.1)) := by decide
theorem ins_or {a b x : Nat} (ha : a < 16) (hb : b < 16) (hx : x < 4) : inS (a ||| b) x = (inS a x || inS b x) := inS_or ⟨a, ha⟩ ⟨b, hb⟩ ⟨x, hx⟩
theorem ins_sh {a x : Nat} (ha : a < 4) (hx : x < 4) : inS (1 <<< a) x = decide (a = x) := inS_sh ⟨a, ha⟩ ⟨x, hx⟩
theorem ins_an {a b x : Nat} (ha : a < 16) (hb : b < 4) (hx : x < 4) : inS (a &&& (15 ^^^ 1 <<< b)) x = (inS a x && !decide (x = b)) := inS_an ⟨a, ha⟩ ⟨b, hb⟩ ⟨x, hx⟩
theorem ins_lt2 : ∀ a : Fin 16, a.1 >>> 1 = 0 → ∀ x : Fin 4, inS a.1 x.1 = true → x.1 = 0 := by decide
theorem ins_lt4 : ∀ a : Fin 16, a.1 >>> 2 = 0 → ∀ x : Fin 4, inS a.1 x.1 = true → x.1 = 0 ∨ x.1 = 1 := by decide
/-- what the quantifier's binding hangs on -/
theorem fresh_congr {v s : Nat} {m m' : Nat → Nat} (hs : s < 16) (hv : v < 4) (h : ∀ x, x < 4 → x ≠ v → inS s x = true → m x = m' x) : fresh v s m = fresh v s m' := by
  unfold fresh
  have e : imgs (s &&& (15 ^^^ 1 <<< v)) m 4 = imgs (s &&& (15 ^^^ 1 <<< v)) m' 4 := imgs_congr fun x hx hi => by
    rw [ins_an hs hv hx] at hi
    have h1 := Bool.and_eq_true_iff.1 hi
    exact h x hx (by simpa using h1.2) h1.1
  rw [e]
/-- putting hangs on the free variables alone -/
theorem put0_congr : ∀ {a : Fm} {m m' : Nat → Nat}, a.ok → (∀ x, x < 4 → inS a.free x = true → m x = m' x) → put0 a m = put0 a m'
  | .tf _, _, _, _, _ => rfl
  | .p v, m, m', hk, h => by
    have hv : v < 4 := hk
    unfold put0
    rw [h v hv (by rw [Fm.free, ins_sh hv hv]; simp)]
  | .r o v u, m, m', hk, h => by
    have hv : v < 4 := hk.2.1
    have hu : u < 4 := hk.2.2
    unfold put0
    rw [h v hv (by rw [Fm.free, ins_or (sh_lt ⟨v, hv⟩) (sh_lt ⟨u, hu⟩) hv, ins_sh hv hv]; simp), h u hu (by rw [Fm.free, ins_or (sh_lt ⟨v, hv⟩) (sh_lt ⟨u, hu⟩) hu, ins_sh hu hu]; simp)]
  | .no a, m, m', hk, h => by
    unfold put0
    rw [put0_congr (a := a) hk h]
  | .two o a b, m, m', hk, h => by
    unfold put0
    rw [put0_congr (a := a) hk.2.1 fun x hx hi => h x hx (by rw [Fm.free, ins_or (Fm.free_lt hk.2.1) (Fm.free_lt hk.2.2) hx, hi]; rfl),
      put0_congr (a := b) hk.2.2 fun x hx hi => h x hx (by rw [Fm.free, ins_or (Fm.free_lt hk.2.1) (Fm.free_lt hk.2.2) hx, hi, Bool.or_true])]
  | .qu o v a, m, m', hk, h => by
    have hv : v < 4 := hk.2.1
    have h2 : ∀ x, x < 4 → x ≠ v → inS a.free x = true → m x = m' x := fun x hx hne hi => h x hx (by rw [Fm.free, ins_an (Fm.free_lt hk.2.2) hv hx, hi]; simpa using hne)
    unfold put0
    rw [fresh_congr (Fm.free_lt hk.2.2) hv h2]
    cases fresh v a.free m' with
    | none => rfl
    | some u =>
      simp only
      rw [put0_congr (a := a) (m := upd m v u) (m' := upd m' v u) hk.2.2 fun x hx hi => by
        unfold upd
        split
        · rfl
        · rename_i hne; exact h2 x hx hne hi]
/-- the places taken so far -/
def tk (s v : Nat) (m : Nat → Nat) (k j : Nat) : Bool := (List.range k).any fun i => inS s i && !decide (i = v) && decide (m i = j)
theorem tk_zero {s v j : Nat} {m : Nat → Nat} : tk s v m 0 j = false := rfl
theorem tk_succ {s v k j : Nat} {m : Nat → Nat} : tk s v m (k + 1) j = (tk s v m k j || (inS s k && !decide (k = v) && decide (m k = j))) := by
  unfold tk
  rw [List.range_succ, List.any_append]
  simp
theorem imgs_lt {s : Nat} {m : Nat → Nat} (hm : ∀ x, x < 4 → m x < 4) : ∀ {k : Nat}, k ≤ 4 → imgs s m k < 16
  | 0, _ => by simp [imgs]
  | k + 1, h => by
    unfold imgs
    split
    · exact or_lt ⟨_, imgs_lt hm (by omega)⟩ ⟨_, sh_lt ⟨m k, hm k (by omega)⟩⟩
    · exact imgs_lt hm (by omega)
theorem imgs_succ {s k : Nat} {m : Nat → Nat} : imgs s m (k + 1) = if inS s k = true then imgs s m k ||| 1 <<< m k else imgs s m k := rfl
theorem imgs_tk {s v j : Nat} {m : Nat → Nat} (hs : s < 16) (hv : v < 4) (hj : j < 4) (hm : ∀ x, x < 4 → m x < 4) : ∀ {k : Nat}, k ≤ 4 → inS (imgs (s &&& (15 ^^^ 1 <<< v)) m k) j = tk s v m k j
  | 0, _ => by
    show inS 0 j = false
    unfold inS; simp
  | k + 1, h => by
    have ih := imgs_tk (k := k) hs hv hj hm (by omega)
    rw [tk_succ, ← ih, imgs_succ, ins_an hs hv (by omega : k < 4)]
    cases hc : (inS s k && !decide (k = v)) with
    | false => simp
    | true =>
      simp only [if_true, Bool.true_and]
      rw [ins_or (imgs_lt hm (by omega)) (sh_lt ⟨m k, hm k (by omega)⟩) hj, ins_sh (hm k (by omega)) hj]
theorem fresh_tk {s v : Nat} {m : Nat → Nat} (hs : s < 16) (hv : v < 4) (hm : ∀ x, x < 4 → m x < 4) :
    fresh v s m = if tk s v m 4 v = false then some v else (List.range 4).find? fun w => !tk s v m 4 w := by
  unfold fresh
  simp only
  rw [imgs_tk hs hv hv hm (Nat.le_refl 4)]
  have e : ∀ l : List Nat, (∀ x, x ∈ l → x < 4) → (l.find? fun w => !inS (imgs (s &&& (15 ^^^ 1 <<< v)) m 4) w) = l.find? fun w => !tk s v m 4 w := by
    intro l
    induction l with
    | nil => intro _; rfl
    | cons x l ih =>
      intro hl
      rw [List.find?_cons, List.find?_cons, imgs_tk hs hv (hl x List.mem_cons_self) hm (Nat.le_refl 4), ih fun y hy => hl y (List.mem_cons_of_mem _ hy)]
  rw [e (List.range 4) fun x hx => List.mem_range.1 hx]
/-- the putter's map for a view -/
def pm1 (v : Nat) : Nat → Nat := fun x => if x = 0 then v else x
def pm2 (v u : Nat) : Nat → Nat := fun x => if x = 0 then v else if x = 1 then u else x
theorem put0_pm1 {a : Fm} {v : Nat} (hk : a.ok) (hf : a.free >>> 1 = 0) : put0 a (pm1 v) = put0 a (map1 v) :=
  put0_congr hk fun x hx hi => by
    have h0 := ins_lt2 ⟨a.free, Fm.free_lt hk⟩ hf ⟨x, hx⟩ hi
    simp only at h0
    subst h0
    rfl
theorem put0_pm2 {a : Fm} {v u : Nat} (hk : a.ok) (hf : a.free >>> 2 = 0) : put0 a (pm2 v u) = put0 a (map2 v u) :=
  put0_congr hk fun x hx hi => by
    have h0 := ins_lt4 ⟨a.free, Fm.free_lt hk⟩ hf ⟨x, hx⟩ hi
    simp only at h0
    rcases h0 with rfl | rfl <;> rfl
/-- relativized -/
def wi (f : Fm) : Fm → Option (List UInt8)
  | .tf c => some [c]
  | .p v => some [80, vb v]
  | .r o v u => some [o, vb v, vb u]
  | .no a => match wi f a with
    | some x => some (33 :: x)
    | none => none
  | .two o a b => match wi f a, wi f b with
    | some x, some y => some (o :: (x ++ y))
    | _, _ => none
  | .qu o v a => match wi f a, put0 f (map1 v) with
    | some x, some y => some (o :: vb v :: ((if o = 65 then [124, 33] else [38]) ++ y ++ x))
    | _, _ => none
/-- putting keeps the length -/
theorem put0_len : ∀ {a : Fm} {m : Nat → Nat} {t : List UInt8}, put0 a m = some t → t.length = a.txt.length
  | .tf _, _, _, h => by cases h; rfl
  | .p _, _, _, h => by cases h; rfl
  | .r _ _ _, _, _, h => by cases h; rfl
  | .no a, m, t, h => by
    unfold put0 at h
    cases h1 : put0 a m with
    | none => rw [h1] at h; cases h
    | some x => rw [h1] at h; cases h; simp [Fm.txt, put0_len h1]
  | .two o a b, m, t, h => by
    unfold put0 at h
    cases h1 : put0 a m with
    | none => rw [h1] at h; cases h
    | some x =>
      cases h2 : put0 b m with
      | none => rw [h1, h2] at h; cases h
      | some y => rw [h1, h2] at h; cases h; simp [Fm.txt, put0_len h1, put0_len h2]
  | .qu o v a, m, t, h => by
    unfold put0 at h
    cases h0 : fresh v a.free m with
    | none => rw [h0] at h; cases h
    | some u =>
      rw [h0] at h
      simp only at h
      cases h1 : put0 a (upd m v u) with
      | none => rw [h1] at h; cases h
      | some x => rw [h1] at h; cases h; simp [Fm.txt, put0_len h1]
theorem txt_pos : ∀ (a : Fm), 1 ≤ a.txt.length
  | .tf _ => by simp [Fm.txt]
  | .p _ => by simp [Fm.txt]
  | .r _ _ _ => by simp [Fm.txt]
  | .no _ => by simp [Fm.txt]
  | .two _ _ _ => by simp [Fm.txt]
  | .qu _ _ _ => by simp [Fm.txt]
/-- with views: a bound of the length -/
theorem put_len {S R : Option Fm} {M : Nat} (hM : 1 ≤ M) (hS : ∀ s, S = some s → s.txt.length ≤ M) (hR : ∀ s, R = some s → s.txt.length ≤ M) : ∀ {a : Fm} {m : Nat → Nat} {t : List UInt8}, put S R a m = some t → t.length ≤ M * a.txt.length
  | .tf _, _, _, h => by cases h; simp [Fm.txt]; omega
  | .p v, m, t, h => by
    unfold put at h
    cases S with
    | none => cases h; simp [Fm.txt]; omega
    | some s => have := put0_len h; have := hS s rfl; simp [Fm.txt]; omega
  | .r o v u, m, t, h => by
    unfold put at h
    cases R with
    | none => cases h; simp [Fm.txt]; omega
    | some s =>
      simp only at h
      split at h
      · have := put0_len h; have := hR s rfl; simp [Fm.txt]; omega
      · cases h; simp [Fm.txt]; omega
  | .no a, m, t, h => by
    unfold put at h
    cases h1 : put S R a m with
    | none => rw [h1] at h; cases h
    | some x =>
      rw [h1] at h; cases h
      have := put_len hM hS hR h1
      simp only [Fm.txt, List.length_cons, Nat.mul_add]; omega
  | .two o a b, m, t, h => by
    unfold put at h
    cases h1 : put S R a m with
    | none => rw [h1] at h; cases h
    | some x =>
      cases h2 : put S R b m with
      | none => rw [h1, h2] at h; cases h
      | some y =>
        rw [h1, h2] at h; cases h
        have := put_len hM hS hR h1
        have := put_len hM hS hR h2
        simp only [Fm.txt, List.length_cons, List.length_append, Nat.mul_add]; omega
  | .qu o v a, m, t, h => by
    unfold put at h
    cases h0 : fresh v a.free m with
    | none => rw [h0] at h; cases h
    | some u =>
      rw [h0] at h
      simp only at h
      cases h1 : put S R a (upd m v u) with
      | none => rw [h1] at h; cases h
      | some x =>
        rw [h1] at h; cases h
        have := put_len hM hS hR h1
        simp only [Fm.txt, List.length_cons, Nat.mul_add]; omega
theorem wi_len {f : Fm} {M : Nat} (hM : f.txt.length ≤ M) : ∀ {a : Fm} {t : List UInt8}, wi f a = some t → t.length ≤ (M + 3) * a.txt.length
  | .tf _, _, h => by cases h; simp [Fm.txt]
  | .p _, _, h => by cases h; simp [Fm.txt]; omega
  | .r _ _ _, _, h => by cases h; simp [Fm.txt]; omega
  | .no a, t, h => by
    unfold wi at h
    cases h1 : wi f a with
    | none => rw [h1] at h; cases h
    | some x =>
      rw [h1] at h; cases h
      have := wi_len hM h1
      simp only [Fm.txt, List.length_cons, Nat.mul_add]; omega
  | .two o a b, t, h => by
    unfold wi at h
    cases h1 : wi f a with
    | none => rw [h1] at h; cases h
    | some x =>
      cases h2 : wi f b with
      | none => rw [h1, h2] at h; cases h
      | some y =>
        rw [h1, h2] at h; cases h
        have := wi_len hM h1
        have := wi_len hM h2
        simp only [Fm.txt, List.length_cons, List.length_append, Nat.mul_add]; omega
  | .qu o v a, t, h => by
    unfold wi at h
    cases h1 : wi f a with
    | none => rw [h1] at h; cases h
    | some x =>
      cases h2 : put0 f (map1 v) with
      | none => rw [h1, h2] at h; cases h
      | some y =>
        rw [h1, h2] at h; cases h
        have h3 := wi_len hM h1
        have h4 := put0_len h2
        simp only [Fm.txt, List.length_cons, List.length_append, Nat.mul_add]
        have h5 : (if o = 65 then [124, 33] else [38] : List UInt8).length ≤ 2 := by split <;> simp
        omega
end Go.Proofs.YtpcnoiigbmiejaaDoor.fm

/- A region that draws its order, whose calls may make memory: one walk in the order of the text, over a class of worlds; a last operation that waits for all others comes behind. No program in sight. -/
namespace Go.Proofs.YtpcnoiigbmiejaaDoor.flow
set_option linter.unusedVariables false
set_option linter.unusedSimpArgs false
open Go Go.RowKit Go.Proofs.YtpcnoiigbmiejaaDoor.lib

/-- a world that meets S -/
structure Wd (S : World → Prop) : Type where
  w : World
  ok : S w
/-- one world more of those that have all that w has -/
theorem Wd.on {w : World} {X W : World} (h : Hid (Below w.heap.size w X)) (hb : Below X.heap.size X W) : ∃ Y : Wd (fun W => Hid (Below w.heap.size w W)), W = Y.w :=
  ⟨⟨W, Lib.hid (h.out.trans (hb.mono h.out.size))⟩, rfl⟩

section
variable {P : Program} {md : Region.Mode} {C : World → Prop}

/-- what is checked of a region before its last operation -/
def headB (H : Array Oper) : Bool :=
  (List.range H.size).all fun i => match H[i]? with
    | none => true
    | some o => o.after.all (fun e => decide (e.on < i)) && (match o.guard with | some g => decide (g.1 < H.size) | none => true)
def lastB (md : Region.Mode) (H : Array Oper) (t : Oper) : Bool :=
  (List.range H.size).all (fun j => t.after.any fun e => Region.binds md e && e.on == j) && t.after.all (fun e => decide (e.on < H.size))

theorem headB_spec {H : Array Oper} (h : headB H = true) {i : Nat} {o : Oper} (hi : H[i]? = some o) :
    (∀ e ∈ o.after, e.on < i) ∧ (∀ g, o.guard = some g → g.1 < H.size) := by
  have hlt : i < H.size := (Array.getElem?_eq_some_iff.1 hi).1
  have h1 := List.all_eq_true.1 h i (List.mem_range.2 hlt)
  rw [hi] at h1
  simp only [Bool.and_eq_true] at h1
  refine ⟨fun e he => ?_, fun g hg => ?_⟩
  · have := Array.all_eq_true_iff_forall_mem.1 h1.1 e he
    simpa using this
  · have h2 := h1.2
    rw [hg] at h2
    simpa using h2

theorem lastB_spec {H : Array Oper} {t : Oper} (h : lastB md H t = true) : (∀ j, j < H.size → ∃ e ∈ t.after, Region.binds md e = true ∧ e.on = j) ∧ ∀ e ∈ t.after, e.on < H.size := by
  simp only [lastB, Bool.and_eq_true] at h
  refine ⟨fun j hj => ?_, fun e he => ?_⟩
  · have h1 := List.all_eq_true.1 h.1 j (List.mem_range.2 hj)
    obtain ⟨e, he, hb⟩ := Array.any_eq_true'.1 h1
    simp only [Bool.and_eq_true, beq_iff_eq] at hb
    exact ⟨e, he, hb.1, hb.2⟩
  · have := Array.all_eq_true_iff_forall_mem.1 h.2 e he
    simpa using this

variable {H : Array Oper} {t : Oper}

theorem getD_push_lt {l : Array Bool} {j : Nat} (h : j < l.size) (d : Bool) : (l.push false).getD j d = l.getD j d := by
  simp only [Array.getD_eq_getD_getElem?, Array.getElem?_push]
  rw [if_neg (by omega)]
theorem getD_push_false {l : Array Bool} {j : Nat} : (l.push false).getD j false = l.getD j false := by
  simp only [Array.getD_eq_getD_getElem?, Array.getElem?_push]
  split
  · rename_i h; subst h; simp
  · rfl

/-- one of the head may come up -/
theorem ready_head {l : Array Bool} (hs : l.size = H.size) {j : Nat} (hj : j < H.size) : j ∈ Region.ready md (H.push t) (l.push false) ↔ j ∈ Region.ready md H l := by
  rw [mem_ready, mem_ready, getD_push_lt (by omega)]
  have e : (H.push t)[j]? = H[j]? := by rw [Array.getElem?_push, if_neg (by omega)]
  rw [e]
  simp only [getD_push_false]
theorem ready_last {l : Array Bool} (hs : l.size = H.size) (hB : lastB md H t = true) : H.size ∈ Region.ready md (H.push t) (l.push false) ↔ ∀ j, j < H.size → l.getD j false = true := by
  obtain ⟨h1, h2⟩ := lastB_spec hB
  rw [mem_ready]
  have e : (H.push t)[H.size]? = some t := by simp
  constructor
  · rintro ⟨_, o, ho, hall⟩ j hj
    rw [e] at ho
    cases ho
    obtain ⟨x, hx, hb, rfl⟩ := h1 j hj
    have := hall x hx hb
    rwa [getD_push_false] at this
  · intro h
    refine ⟨by simp [Array.getD_eq_getD_getElem?, ← hs], t, e, fun x hx hb => ?_⟩
    rw [getD_push_false]
    exact h x.on (h2 x hx)
theorem ready_le {l : Array Bool} {j : Nat} (h : j ∈ Region.ready md (H.push t) l) : j < H.size ∨ j = H.size := by
  obtain ⟨_, o, ho, _⟩ := mem_ready.1 h
  have := (Array.getElem?_eq_some_iff.1 ho).1
  simp at this
  omega
/-- nothing of the head may come up: all of it has -/
theorem all_of_none {l : Array Bool} (hs : l.size = H.size) (hB : headB H = true) (h : Region.ready md H l = []) : ∀ j, j < H.size → l.getD j false = true := by
  intro j
  induction j using Nat.strongRecOn with
  | _ j ih =>
    intro hj
    cases hl : l.getD j false with
    | true => rfl
    | false =>
      exfalso
      have : j ∈ Region.ready md H l := by
        rw [mem_ready]
        refine ⟨?_, H[j], by simp, fun e he _ => ?_⟩
        · have hjl : j < l.size := by omega
          simp [Array.getD_eq_getD_getElem?, hjl] at hl ⊢; exact hl
        · have := (headB_spec hB (show H[j]? = some H[j] by simp)).1 e he
          exact ih e.on this (by omega)
      rw [h] at this
      cases this
theorem none_of_all {l : Array Bool} (h : ∀ j, j < H.size → l.getD j false = true) : Region.ready md H l = [] := by
  cases hr : Region.ready md H l with
  | nil => rfl
  | cons j r =>
    exfalso
    have hj : j ∈ Region.ready md H l := by rw [hr]; exact List.mem_cons_self
    obtain ⟨h1, o, ho, _⟩ := mem_ready.1 hj
    have hlt := (Array.getElem?_eq_some_iff.1 ho).1
    have h2 := h j hlt
    by_cases hjl : j < l.size
    · simp [Array.getD_eq_getD_getElem?, hjl] at h1 h2; rw [h1] at h2; cases h2
    · simp [Array.getD_eq_getD_getElem?, Array.getElem?_eq_none (Nat.le_of_not_lt hjl)] at h2
theorem yielded_push {tmps : Array Value} {j : Nat} (h : j < H.size) : yielded (H.push t) tmps j = yielded H tmps j := by
  unfold yielded
  rw [Array.getElem?_push, if_neg (by omega)]

theorem yielded_wanted {o : Oper} {tmps : Array Value} (hg : ∀ g, o.guard = some g → g.1 < H.size) : Region.wanted o (yielded (H.push t) tmps) = Region.wanted o (yielded H tmps) := by
  unfold Region.wanted
  cases hq : o.guard with
  | none => rfl
  | some g =>
    have hlt := hg g hq
    simp only [yielded_push hlt]
theorem qOp_push {i : Nat} {K : Act → Prop} {a : Act} (hH : headB H = true) (hi : i < H.size) (h : qOp P H C i K a) : qOp P (H.push t) C i K a := by
  unfold qOp at *
  have e : (H.push t)[i]? = H[i]? := by rw [Array.getElem?_push, if_neg (by omega)]
  have e2 : H[i]? = some H[i] := by simp
  rw [e]
  rw [e2] at h ⊢
  simp only [yielded_wanted (t := t) (headB_spec hH e2).2]
  exact h
theorem last_done {Q : Exit → Act → World → Prop} (hT : lastB md H t = true) {g : Nat} {l : Array Bool} {a : Act} {w : World} (hs : l.size = H.size) (hall : ∀ j, j < H.size → l.getD j false = true)
    (h : wpList P (H.push t) Q [t] a w) : wpAny P md (H.push t) Q (g + 1) (l.push false) a w := by
  have hr : H.size ∈ Region.ready md (H.push t) (l.push false) := (ready_last hs hT).2 hall
  refine ⟨fun h0 => (by rw [h0] at hr; cases hr), fun i hi => ?_⟩
  rcases ready_le hi with hlt | rfl
  · rw [ready_head hs hlt, none_of_all hall] at hi
    cases hi
  have h0 : (H.push t)[H.size]? = some t := by simp
  have hw : wpOp P (H.push t) Q H.size (wpList P (H.push t) Q []) a w := by unfold wpOp; simp only [h0]; exact h
  refine wpOp_mono (fun a' w' h' => ?_) hw
  have hn : Region.ready md (H.push t) ((l.push false).setIfInBounds H.size true) = [] := by
    refine none_of_all fun j hj => ?_
    simp only [Array.size_push] at hj
    by_cases hje : j = H.size
    · subst hje; simp [Array.getD_eq_getD_getElem?, ← hs]
    · rw [getD_set_ne false (by omega), getD_push_false]; exact hall j (by omega)
  have hq : Q .normal a' w' := by simpa [wpList] using h'
  cases g with
  | zero => exact ⟨hn, hq⟩
  | succ g => exact ⟨fun _ => hq, fun i hi => (by rw [hn] at hi; cases hi)⟩

theorem wpAny_of_quiet_last {Q : Exit → Act → World → Prop} (hH : headB H = true) (hT : lastB md H t = true) :
    ∀ (fuel : Nat) (l : Array Bool) (a : Act) (w : World), l.size = H.size → C w →
    wpAnyQ P md H C (fun a' => ∀ w', C w' → wpList P (H.push t) Q [t] a' w') fuel l a →
    wpAny P md (H.push t) Q (fuel + 1) (l.push false) a w
  | 0, l, a, w, hs, hw, h => last_done hT hs (all_of_none hs hH h.1) (h.2 w hw)
  | fuel + 1, l, a, w, hs, hw, h => by
    by_cases hr : Region.ready md H l = []
    · exact last_done hT hs (all_of_none hs hH hr) (h.1 hr w hw)
    · have hnot : H.size ∉ Region.ready md (H.push t) (l.push false) := fun hc => hr (none_of_all ((ready_last hs hT).1 hc))
      refine ⟨fun h0 => ?_, fun i hi => ?_⟩
      · obtain ⟨j, hj⟩ := List.exists_mem_of_ne_nil _ hr
        have hlt : j < H.size := (Array.getElem?_eq_some_iff.1 (mem_ready.1 hj).2.choose_spec.1).1
        have := (ready_head (t := t) hs hlt).2 hj
        rw [h0] at this
        cases this
      · rcases ready_le hi with hlt | rfl
        · have h2 := h.2 i ((ready_head hs hlt).1 hi)
          refine wpOp_of_qOp hw (fun a' w' hw' h' => ?_) (qOp_push (t := t) hH hlt h2)
          have e : (l.push false).setIfInBounds i true = (l.setIfInBounds i true).push false := by
            apply Array.ext_getElem?
            intro k
            simp only [Array.getElem?_push, Array.getElem?_setIfInBounds, Array.size_setIfInBounds, Array.size_push]
            by_cases hik : i = k
            · subst hik; simp [show i < l.size by omega, show i ≠ l.size by omega, show i < l.size + 1 by omega]
            · simp [hik]
          rw [e]
          exact wpAny_of_quiet_last hH hT fuel _ a' w' (by simpa using hs) hw' h'
        · exact absurd hi hnot

/-- a region that draws its order: all but the last operation quiet in the class, the last one waits for all of them -/
theorem wp_region_cls_last {id : Nat} {Q : Exit → Act → World → Prop} {a : Act} {w : World} {L Hl : List Oper} {t : Oper} (hm : P.follows .mixedOrders = true) (hL : L = Hl ++ [t])
    (hB : Region.lexB .any Hl.toArray = true) (hH : headB Hl.toArray = true) (hT : lastB .any Hl.toArray t = true) (hC : C { w with drawn := w.drawn + 1 })
    (h : wpQuiet P Hl.toArray C (fun a' => ∀ w', C w' → wpList P L.toArray Q [t] a' w') Hl a) : (Code.region id L.toArray true).wp P Q a w := by
  subst hL
  simp only [Region.lexB, Bool.and_eq_true] at hB
  refine wp_region_any hm ?_
  have h1 := wpAnyQ_lex (C := C) (md := .any) hB.1 Hl 0 (Array.replicate Hl.toArray.size false) a (by simp) (by simpa using hB.2) h
  have e : (Hl ++ [t]).toArray = Hl.toArray.push t := by simp
  rw [e] at h1 ⊢
  have h2 := wpAny_of_quiet_last (P := P) hH hT Hl.length (Array.replicate Hl.toArray.size false) a _ (by simp) hC h1
  have e3 : Array.replicate (Hl.toArray.push t).size false = (Array.replicate Hl.toArray.size false).push false := by
    apply Array.ext_getElem?
    intro k
    simp [Array.getElem?_push, Array.getElem?_replicate]
    split <;> split <;> first | rfl | (simp; omega) | skip
    all_goals omega
  rw [e3]
  simpa using h2

theorem split_last {α : Type} : ∀ {L : List α}, L ≠ [] → ∃ t, L.getLast?.toList = [t] ∧ L = L.dropLast ++ [t]
  | L, h => ⟨L.getLast h, by rw [List.getLast?_eq_some_getLast h]; rfl, (List.dropLast_concat_getLast h).symm⟩

/-- the class of the worlds that meet S -/
theorem flow_last {S : World → Prop} {id : Nat} {Q : Exit → Act → World → Prop} {a : Act} {w : World} {L : List Oper} (hm : P.follows .mixedOrders = true) (hne : L.isEmpty = false)
    (hB : Region.lexB .any L.dropLast.toArray = true) (hH : headB L.dropLast.toArray = true) (hT : L.getLast?.toList.all (lastB .any L.dropLast.toArray) = true) (hS : S { w with drawn := w.drawn + 1 })
    (h : wpQuiet P L.dropLast.toArray (fun W => ∃ X : Wd S, W = X.w) (fun a' => ∀ W, (∃ X : Wd S, W = X.w) → wpList P L.toArray Q L.getLast?.toList a' W) L.dropLast a) : (Code.region id L.toArray true).wp P Q a w := by
  obtain ⟨t, h1, h2⟩ := split_last (L := L) (by rintro rfl; simp at hne)
  rw [h1] at h hT
  exact wp_region_cls_last hm h2 hB hH (by simpa using hT) ⟨⟨_, hS⟩, rfl⟩ h
theorem flow_all {S : World → Prop} {id : Nat} {Q : Exit → Act → World → Prop} {a : Act} {w : World} {L : List Oper} (hm : P.follows .mixedOrders = true)
    (hB : Region.lexB .any L.toArray = true) (hS : S { w with drawn := w.drawn + 1 })
    (h : wpQuiet P L.toArray (fun W => ∃ X : Wd S, W = X.w) (fun a' => ∀ W, (∃ X : Wd S, W = X.w) → Q .normal a' W) L a) : (Code.region id L.toArray true).wp P Q a w :=
  wp_region_quiet (C := fun W => ∃ X : Wd S, W = X.w) hm hB ⟨⟨_, hS⟩, rfl⟩ (by simpa using h)
end
end Go.Proofs.YtpcnoiigbmiejaaDoor.flow

/- A region that draws its order, whose calls come one behind another: loads and arithmetic are taken as early as they may come up, in every world of a class; the calls in their order, from the very world at hand. No program in sight. -/
namespace Go.Proofs.YtpcnoiigbmiejaaDoor.chain
set_option linter.unusedVariables false
set_option linter.unusedSimpArgs false
open Go Go.RowKit Go.Proofs.YtpcnoiigbmiejaaDoor.lib Go.Proofs.YtpcnoiigbmiejaaDoor.flow

def plainOp : Op → Bool
  | .move _ | .assign _ | .pick _ _ _ | .load _ _ | .nilCheck _ | .binOp _ _ _ _ _ | .unOp _ _ _ | .convert _ _ _ | .slice _ _ _ _ _ | .fieldAddr _ _ _ | .field _ _ _ | .indexAddr _ _ _ | .index _ _ _ | .extract _ _ | .build _ _ | .makeFunc _ _ _ => true
  | .call c => match c.callee with
    | .builtin .len | .builtin .min | .builtin .max | .builtin .cap => true
    | _ => false
  | _ => false

section
variable {P : Program} {S : World → Prop} {o : Oper} {a : Act} {w w' : World} {n : Next}

theorem andThen_inv {α β : Type} {r : Result α} {f : α → World → Result β} {b : β} (h : r.andThen f = .ok b w') : ∃ x w1, f x w1 = .ok b w' := by
  cases r with
  | ok x w1 => exact ⟨x, w1, h⟩
  | halt x w1 => cases h
theorem wrapped {s : Sem Value} (h : (do pure (Next.value (← s)) : Sem Next).run P w = .ok n w') : ∃ u, n = .value u := by
  simp only [Sem.run_bind, Sem.run_pure] at h
  generalize s.run P w = r at h
  cases r with
  | ok u w1 => simp only [Result.andThen_ok, Result.ok.injEq] at h; exact ⟨u, h.1.symm⟩
  | halt x w1 => cases h
theorem plain_value {ρ : Operand → Value} (hp : plainOp o.op = true) (h : (execOp ρ o).run P w = .ok n w') : ∃ u, n = .value u := by
  unfold execOp at h
  cases hop : o.op <;> rw [hop] at hp <;> simp only [plainOp, Bool.false_eq_true] at hp <;> simp only [hop] at h
  case move x => simp only [Sem.run_pure, Result.ok.injEq] at h; exact ⟨_, h.1.symm⟩
  case assign x => simp only [Sem.run_pure, Result.ok.injEq] at h; exact ⟨_, h.1.symm⟩
  case pick c x y =>
    simp only [Sem.run_bind, Sem.run_pure] at h
    generalize (asBool (ρ c)).run P w = r at h
    cases r with
    | ok u w1 => simp only [Result.andThen_ok, Sem.run_pure, Result.ok.injEq] at h; exact ⟨_, h.1.symm⟩
    | halt x w1 => cases h
  case nilCheck x =>
    have hpan : ∀ w1 w2 : World, (runtimePanic .nilDeref : Sem Next).run P w1 = .ok n w2 → False := by
      intro w1 w2 h; simp [runtimePanic, go_sem] at h
    split at h
    · exact (hpan _ _ h).elim
    · exact (hpan _ _ h).elim
    · exact (hpan _ _ h).elim
    · split at h
      · exact (hpan _ _ h).elim
      · simp only [Sem.run_bind] at h
        obtain ⟨_, w1, h⟩ := andThen_inv h
        obtain ⟨_, w2, h⟩ := andThen_inv h
        split at h
        · simp only [Sem.run_bind] at h
          obtain ⟨_, w3, h⟩ := andThen_inv h
          simp only [Sem.run_pure, Result.ok.injEq] at h; exact ⟨_, h.1.symm⟩
        · simp only [Sem.run_pure, Result.ok.injEq] at h; exact ⟨_, h.1.symm⟩
      · simp only [Sem.run_pure, Result.ok.injEq] at h; exact ⟨_, h.1.symm⟩
    · simp only [Sem.run_pure, Result.ok.injEq] at h; exact ⟨_, h.1.symm⟩
  case call c =>
    obtain ⟨callee, args, argTypes⟩ := c
    cases callee with
    | builtin b =>
      cases b
      all_goals first | exact Bool.noConfusion hp | skip
      all_goals
        simp only [resolve, Sem.run_bind, Sem.run_pure, Result.andThen_ok, invoke, builtin] at h
        obtain ⟨u, w1, h⟩ := andThen_inv h
        simp only [Result.ok.injEq] at h
        exact ⟨u, h.1.symm⟩
    | invoke r m => exact Bool.noConfusion hp
    | value f => exact Bool.noConfusion hp
  all_goals exact wrapped h

/-- the worlds that meet S -/
abbrev Cls (S : World → Prop) : World → Prop := fun W => ∃ X : Wd S, W = X.w
theorem yields_of_quiet {v : Value} (hp : plainOp o.op = true) (hq : ∀ w, Cls S w → o.quietAt P a (Cls S) w v) : ∀ w, S w → (execOp a.eval o).run P w = .ok (.value v) w := by
  intro w hw
  have h := hq w ⟨⟨w, hw⟩, rfl⟩
  unfold Oper.quietAt at h
  generalize hr : (execOp a.eval o).run P w = r at h
  cases r with
  | halt x w1 => exact h.elim
  | ok n w1 =>
    obtain ⟨u, rfl⟩ := plain_value hp hr
    obtain ⟨rfl, rfl⟩ : w1 = w ∧ u = v := h
    rfl

/-- those that a mask picks -/
def pickB : List Bool → List Oper → List Oper
  | true :: bs, o :: os => o :: pickB bs os
  | false :: bs, _ :: os => pickB bs os
  | _, _ => []
def idxB : List Bool → Nat → List Nat
  | true :: bs, k => k :: idxB bs (k + 1)
  | false :: bs, k => idxB bs (k + 1)
  | [], _ => []
def plainAt (ops : Array Oper) (i : Nat) : Bool := match ops[i]? with | some o => plainOp o.op | none => false
def segB (md : Region.Mode) (ops : Array Oper) : List Nat → Array Bool → Bool × Array Bool
  | [], l => (true, l)
  | i :: is, l =>
    let r := segB md ops is (l.setIfInBounds i true)
    ((Region.ready md ops l).contains i && Region.free md ops l i && plainAt ops i && r.1, r.2)
def chainB (md : Region.Mode) (ops : Array Oper) : List (List Bool × Nat) → List Bool → Array Bool → Bool
  | [], m, l => decide (m.length ≤ ops.size) && (segB md ops (idxB m 0) l).1 && (Region.ready md ops (segB md ops (idxB m 0) l).2).isEmpty
  | (m, h) :: segs, m', l => decide (m.length ≤ ops.size) && (segB md ops (idxB m 0) l).1 && (Region.ready md ops (segB md ops (idxB m 0) l).2 == [h]) && chainB md ops segs m' ((segB md ops (idxB m 0) l).2.setIfInBounds h true)
def stepsB : List (List Bool × Nat) → List Bool → Nat
  | [], m => (idxB m 0).length
  | (m, _) :: segs, m' => stepsB segs m' + 1 + (idxB m 0).length

def upF (K : Act → World → Prop) : Exit → Act → World → Prop
  | .normal, a, w => K a w
  | _, _, _ => False

/-- the walk: lights, a heavy one, lights, .. -/
def wpSegs (P : Program) (ops : Array Oper) (Q : Exit → Act → World → Prop) (S : World → Prop) : List (List Bool × Nat) → List Bool → Act → World → Prop
  | [], m, a, w => wpQuiet P ops (Cls S) (fun a' => Q .normal a' w) (pickB m ops.toList) a
  | (m, h) :: segs, m', a, w => wpQuiet P ops (Cls S) (fun a' => ∀ K : Act → World → Prop, (∀ a2 w2, S w2 → wpSegs P ops Q S segs m' a2 w2 → K a2 w2) → wpList P ops (upF K) (ops[h]?).toList a' w) (pickB m ops.toList) a

variable {ops : Array Oper} {md : Region.Mode} {Q : Exit → Act → World → Prop}
theorem idx_pick : ∀ (m : List Bool) (k : Nat), k + m.length ≤ ops.size → (idxB m k).map (fun i => ops[i]?) = (pickB m (ops.toList.drop k)).map some
  | [], k, _ => by cases ops.toList.drop k <;> rfl
  | b :: m, k, h => by
    simp only [List.length_cons] at h
    have hk : k < ops.toList.length := by simp; omega
    rw [List.drop_eq_getElem_cons hk]
    have ih := idx_pick m (k + 1) (by omega)
    cases b with
    | true =>
      simp only [idxB, pickB, List.map_cons, ih, List.cons.injEq, and_true]
      simp at hk ⊢
    | false => simp only [idxB, pickB, ih]

theorem held_seg (hs : Region.noSelect ops = true) (hQ : ∀ c d v a w, Q (.panic c) (Act.put a d v) w → Q (.panic c) a w) : ∀ (is : List Nat) (os : List Oper) (listed : Array Bool) (a : Act) (w : World) (fuel : Nat), is.map (fun i => ops[i]?) = os.map some →
    (segB md ops is listed).1 = true → S w → wpQuiet P ops (Cls S) (fun a' => wpAnyH P md ops Q S fuel (segB md ops is listed).2 a' w) os a → wpAnyH P md ops Q S (fuel + is.length) listed a w
  | [], os, listed, a, w, fuel, hm, hB, hS, h => by
    cases os with
    | nil => exact h
    | cons o os => simp at hm
  | i :: is, os, listed, a, w, fuel, hm, hB, hS, h => by
    cases os with
    | nil => simp at hm
    | cons o os =>
      simp only [List.map_cons, List.cons.injEq] at hm
      simp only [segB, Bool.and_eq_true] at hB h
      obtain ⟨⟨⟨hr, hf⟩, hp⟩, hB'⟩ := hB
      have hpo : plainOp o.op = true := by simpa [plainAt, hm.1] using hp
      have key : ∃ v, YieldsIf P ops S o v a ∧ wpQuiet P ops (Cls S) (fun a' => wpAnyH P md ops Q S fuel (segB md ops is (listed.setIfInBounds i true)).2 a' w) os (a.put o.dst v) := by
        unfold wpQuiet at h
        by_cases hw : Region.wanted o (yielded ops a.tmps) = true
        · rw [if_pos hw] at h
          obtain ⟨v, h1, h2⟩ := h
          exact ⟨v, .inl ⟨hw, yields_of_quiet hpo h1⟩, h2⟩
        · rw [if_neg hw] at h
          exact ⟨undef, .inr ⟨by simpa using hw, rfl⟩, h⟩
      obtain ⟨v, hy, hk⟩ := key
      have ih := held_seg hs hQ is os (listed.setIfInBounds i true) (a.put o.dst v) w fuel hm.2 hB' hS hk
      exact wpAnyH_take hm.1 hs hf hr (fun c a w => hQ c o.dst v a w) hy hS ih

theorem quiet_mono {C : World → Prop} {K K' : Act → Prop} (h : ∀ a, K a → K' a) : ∀ (l : List Oper) (a : Act), wpQuiet P ops C K l a → wpQuiet P ops C K' l a
  | [], a, hq => h a hq
  | o :: l, a, hq => by
    unfold wpQuiet at hq ⊢
    split
    · rename_i hw; rw [if_pos hw] at hq; exact Oper.quiet_mono (quiet_mono h l) hq
    · rename_i hw; rw [if_neg hw] at hq; exact quiet_mono h l _ hq
theorem segs_mono : ∀ (segs : List (List Bool × Nat)) (m : List Bool) (a : Act) (w : World), wpSegs P ops Q S segs m a w → wpSegs P ops (NoPanic Q) S segs m a w
  | [], m, a, w, h => quiet_mono (fun a' hq => hq) _ _ h
  | (m, hv) :: segs, m', a, w, h => by
    unfold wpSegs at h ⊢
    exact quiet_mono (fun a' hk K hK => hk K (fun a2 w2 hS hw => hK a2 w2 hS (segs_mono segs m' a2 w2 hw))) _ _ h

theorem wpOp_of_list {K : Act → World → Prop} {h : Nat} {o : Oper} (ho : ops[h]? = some o) (hw : wpList P ops (upF K) (ops[h]?).toList a w) : wpOp P ops Q h K a w := by
  rw [ho] at hw
  have hout : ∀ p : Prop, LetsOut (upF K) → p := fun p ⟨_, _, h⟩ => h.elim
  unfold wpOp
  simp only [ho]
  simp only [Option.toList_some, wpList] at hw
  split
  · rename_i hwant
    rw [if_pos hwant] at hw
    rcases hw with hw | hw
    · refine .inl ?_
      unfold Oper.wp at hw ⊢
      generalize (execOp a.eval o).run P w = r at hw ⊢
      cases r with
      | halt x w1 => cases x <;> exact hw.elim
      | ok n w1 =>
        cases n <;> simp only [Oper.upon] at hw ⊢
        case value u => exact hw
        case skip => exact hw
        case defer d => exact hw
        case row row args => exact hw
        case enter f args =>
          refine Calls.mono hw fun e w2 he => ?_
          cases e with
          | returned v => exact he
          | panicked c => exact he.elim
          | outgrown => exact hout _ he
    · exact hout _ hw.2
  · rename_i hwant
    rw [if_neg hwant] at hw
    exact hw

theorem held_chain (hs : Region.noSelect ops = true) (hQ : ∀ c d v a w, Q (.panic c) (Act.put a d v) w → Q (.panic c) a w) : ∀ (segs : List (List Bool × Nat)) (m : List Bool) (listed : Array Bool) (a : Act) (w : World) (fuel : Nat),
    chainB md ops segs m listed = true → S w → wpSegs P ops Q S segs m a w → wpAnyH P md ops Q S (fuel + stepsB segs m) listed a w
  | [], m, listed, a, w, fuel, hB, hS, h => by
    simp only [chainB, Bool.and_eq_true, decide_eq_true_eq] at hB
    obtain ⟨⟨hm, h1⟩, h2⟩ := hB
    have hr : Region.ready md ops (segB md ops (idxB m 0) listed).2 = [] := by simpa using h2
    refine held_seg hs hQ (idxB m 0) (pickB m ops.toList) listed a w fuel (by simpa using idx_pick m 0 (by omega)) h1 hS ?_
    unfold wpSegs at h
    have e : ∀ a', Q .normal a' w → wpAnyH P md ops Q S fuel (segB md ops (idxB m 0) listed).2 a' w := fun a' hq => by
      cases fuel with
      | zero => exact ⟨hr, hq⟩
      | succ f => exact ⟨fun _ => hq, fun i hi => by rw [hr] at hi; cases hi⟩
    rw [show (fun a' => wpAnyH P md ops Q S fuel (segB md ops (idxB m 0) listed).2 a' w) = (fun a' => wpAnyH P md ops Q S fuel (segB md ops (idxB m 0) listed).2 a' w) from rfl]
    exact quiet_mono e _ _ h
  | (m, hv) :: segs, m', listed, a, w, fuel, hB, hS, h => by
    simp only [chainB, Bool.and_eq_true, decide_eq_true_eq] at hB
    obtain ⟨⟨⟨hm, h1⟩, h2⟩, h3⟩ := hB
    have hr : Region.ready md ops (segB md ops (idxB m 0) listed).2 = [hv] := by simpa using h2
    have hlt : ∃ o, ops[hv]? = some o := by
      have : hv ∈ Region.ready md ops (segB md ops (idxB m 0) listed).2 := by rw [hr]; exact List.mem_singleton_self _
      obtain ⟨_, o, ho, _⟩ := mem_ready.1 this
      exact ⟨o, ho⟩
    obtain ⟨o, ho⟩ := hlt
    have e2 : fuel + stepsB ((m, hv) :: segs) m' = (fuel + stepsB segs m' + 1) + (idxB m 0).length := by simp only [stepsB]; omega
    rw [e2]
    refine held_seg hs hQ (idxB m 0) (pickB m ops.toList) listed a w _ (by simpa using idx_pick m 0 (by omega)) h1 hS ?_
    unfold wpSegs at h
    refine quiet_mono (fun a' hk => ?_) _ _ h
    refine wpAnyH_all hr (by simp) fun i hi => ?_
    rw [List.mem_singleton.1 hi]
    exact wpOp_of_list ho (hk _ (fun a2 w2 hS2 hw2 => ⟨hS2, held_chain hs hQ segs m' _ a2 w2 fuel h3 hS2 hw2⟩))

theorem chain {id : Nat} {L : List Oper} (segs : List (List Bool × Nat)) (m : List Bool) (hm : P.follows .mixedOrders = true) (hn : Region.noSelect L.toArray = true)
    (hB : (chainB .any L.toArray segs m (Array.replicate L.length false) && decide (stepsB segs m ≤ L.length)) = true) (hS : S w.drew) (h : wpSegs P L.toArray Q S segs m a w.drew) : (Code.region id L.toArray true).wp P Q a w := by
  simp only [Bool.and_eq_true, decide_eq_true_eq] at hB
  refine wp_region_noPanic ?_
  refine wp_region_held (S := S) hm ?_
  have hk := held_chain (Q := NoPanic Q) (md := .any) hn (fun c d v a w h => h) segs m (Array.replicate L.length false) a w.drew (L.length - stepsB segs m) hB.1 hS (segs_mono segs m a w.drew h)
  rw [show L.length - stepsB segs m + stepsB segs m = L.length from by omega] at hk
  simpa using hk

/-! a last operation that waits for all others and may break the class -/
theorem wpOp_up {K K' : Act → World → Prop} {K0 : Act → World → Prop} {h : Nat} (hk : ∀ a w, K0 a w → K' a w) (hw : wpOp P ops (upF K) h K0 a w) : wpOp P ops Q h K' a w := by
  have hout : ∀ p : Prop, LetsOut (upF K) → p := fun p ⟨_, _, h⟩ => h.elim
  unfold wpOp at hw ⊢
  split
  · rename_i ho; rw [ho] at hw; exact hk _ _ hw
  · rename_i o ho
    rw [ho] at hw
    simp only at hw
    split
    · rename_i hwant
      rw [if_pos hwant] at hw
      rcases hw with hw | hw
      · refine .inl ?_
        unfold Oper.wp at hw ⊢
        generalize (execOp a.eval o).run P w = r at hw ⊢
        cases r with
        | halt x w1 => cases x <;> exact hw.elim
        | ok n w1 =>
          cases n <;> simp only [Oper.upon] at hw ⊢
          case value u => exact hk _ _ hw
          case skip => exact hk _ _ hw
          case defer d => exact hk _ _ hw
          case row row args => exact Rows.mono hw fun u w2 he => hk _ _ he
          case enter f args =>
            refine Calls.mono hw fun e w2 he => ?_
            cases e with
            | returned v => exact hk _ _ he
            | panicked c => exact he.elim
            | outgrown => exact hout _ he
      · exact hout _ hw.2
    · rename_i hwant
      rw [if_neg hwant] at hw
      exact hk _ _ hw
variable {H : Array Oper} {t : Oper}
theorem wpOp_push {K : Act → World → Prop} {Q' : Exit → Act → World → Prop} {i : Nat} (hH : headB H = true) (hi : i < H.size) (h : wpOp P H Q' i K a w) : wpOp P (H.push t) Q' i K a w := by
  unfold wpOp at *
  have e : (H.push t)[i]? = H[i]? := by rw [Array.getElem?_push, if_neg (by omega)]
  have e2 : H[i]? = some H[i] := by simp
  rw [e]
  rw [e2] at h ⊢
  simp only [yielded_wanted (t := t) (headB_spec hH e2).2]
  exact h
theorem wpAny_of_held_last (hH : headB H = true) (hT : lastB md H t = true) : ∀ (fuel : Nat) (l : Array Bool) (a : Act) (w : World), l.size = H.size →
    wpAnyH P md H (upF (fun a w => wpList P (H.push t) Q [t] a w)) S fuel l a w → wpAny P md (H.push t) Q (fuel + 1) (l.push false) a w
  | 0, l, a, w, hs, h => last_done hT hs (all_of_none hs hH h.1) h.2
  | fuel + 1, l, a, w, hs, h => by
    by_cases hr : Region.ready md H l = []
    · exact last_done hT hs (all_of_none hs hH hr) (h.1 hr)
    · have hnot : H.size ∉ Region.ready md (H.push t) (l.push false) := fun hc => hr (none_of_all ((ready_last hs hT).1 hc))
      refine ⟨fun h0 => ?_, fun i hi => ?_⟩
      · obtain ⟨j, hj⟩ := List.exists_mem_of_ne_nil _ hr
        have hlt : j < H.size := (Array.getElem?_eq_some_iff.1 (mem_ready.1 hj).2.choose_spec.1).1
        have := (ready_head (t := t) hs hlt).2 hj
        rw [h0] at this
        cases this
      · rcases ready_le hi with hlt | rfl
        · have h2 := h.2 i ((ready_head hs hlt).1 hi)
          refine wpOp_up (fun a' w' h' => ?_) (wpOp_push (t := t) hH hlt h2)
          have e : (l.push false).setIfInBounds i true = (l.setIfInBounds i true).push false := by
            apply Array.ext_getElem?
            intro k
            simp only [Array.getElem?_push, Array.getElem?_setIfInBounds, Array.size_setIfInBounds, Array.size_push]
            by_cases hik : i = k
            · subst hik; simp [show i < l.size by omega, show i ≠ l.size by omega, show i < l.size + 1 by omega]
            · simp [hik]
          rw [e]
          exact wpAny_of_held_last hH hT fuel _ a' w' (by simpa using hs) h'.2
        · exact absurd hi hnot

theorem chain_last {id : Nat} {L : List Oper} (segs : List (List Bool × Nat)) (m : List Bool) (hm : P.follows .mixedOrders = true) (hne : L.isEmpty = false) (hn : Region.noSelect L.dropLast.toArray = true)
    (hH : headB L.dropLast.toArray = true) (hT : L.getLast?.toList.all (lastB .any L.dropLast.toArray) = true)
    (hB : (chainB .any L.dropLast.toArray segs m (Array.replicate L.dropLast.length false) && decide (stepsB segs m ≤ L.dropLast.length)) = true) (hS : S w.drew)
    (h : wpSegs P L.dropLast.toArray (upF (fun a w => wpList P L.toArray Q L.getLast?.toList a w)) S segs m a w.drew) : (Code.region id L.toArray true).wp P Q a w := by
  simp only [Bool.and_eq_true, decide_eq_true_eq] at hB
  obtain ⟨t, h1, h2⟩ := split_last (L := L) (by rintro rfl; simp at hne)
  refine wp_region_any hm ?_
  have hk := held_chain (md := .any) hn (fun c d v a w h => h.elim) segs m (Array.replicate L.dropLast.length false) a w.drew (L.dropLast.length - stepsB segs m) hB.1 hS h
  rw [show L.dropLast.length - stepsB segs m + stepsB segs m = L.dropLast.length from by omega, h1] at hk
  rw [h1] at hT
  have e : L.toArray = L.dropLast.toArray.push t := by rw [List.push_toArray, ← h2]
  rw [e] at hk ⊢
  have hk2 := wpAny_of_held_last (t := t) hH (by simpa using hT) L.dropLast.length (Array.replicate L.dropLast.length false) a w.drew (by simp) hk
  have e3 : (Array.replicate L.dropLast.length false).push false = Array.replicate (L.dropLast.toArray.push t).size false := by
    apply Array.ext_getElem?
    intro k
    simp only [Array.getElem?_push, Array.getElem?_replicate, Array.size_replicate, Array.size_push, List.size_toArray]
    split <;> split <;> first | rfl | (exfalso; omega) | skip
    all_goals first | rfl | (rename_i h1 h2; simp at h2; omega) | (split <;> first | rfl | omega)
  rw [e3] at hk2
  have e4 : (L.dropLast.toArray.push t).size = L.dropLast.length + 1 := by simp
  rw [e4] at hk2 ⊢
  exact hk2
end
end Go.Proofs.YtpcnoiigbmiejaaDoor.chain

/- Games with pebbles, with and without counting, in plain words. No program in sight. -/
namespace Go.Proofs.YtpcnoiigbmiejaaDoor.peb
set_option linter.unusedVariables false
set_option linter.unusedSimpArgs false
open Go.Proofs.YtpcnoiigbmiejaaDoor.game

/-- one element to one, all of them -/
def Bij (n m : Nat) (f g : Nat → Nat) : Prop := (∀ x, x < n → f x < m ∧ g (f x) = x) ∧ ∀ y, y < m → g y < n ∧ f (g y) = y
theorem Bij.refl (n : Nat) : Bij n n id id := ⟨fun _ h => ⟨h, rfl⟩, fun _ h => ⟨h, rfl⟩⟩
theorem Bij.symm {n m : Nat} {f g : Nat → Nat} (h : Bij n m f g) : Bij m n g f := ⟨h.2, h.1⟩
theorem Bij.trans {n m k : Nat} {f g p q : Nat → Nat} (h : Bij n m f g) (h2 : Bij m k p q) : Bij n k (p ∘ f) (g ∘ q) :=
  ⟨fun x hx => by
    have h3 := h.1 x hx
    have h4 := h2.1 _ h3.1
    exact ⟨h4.1, by show g (q (p (f x))) = x; rw [h4.2, h3.2]⟩, fun z hz => by
    have h3 := h2.2 z hz
    have h4 := h.2 _ h3.1
    exact ⟨h4.1, by show p (f (g (q z))) = z; rw [h4.2, h3.2]⟩⟩
theorem Bij.le {n m : Nat} {f g : Nat → Nat} (h : Bij n m f g) : n ≤ m := by
  have hn : ((List.range n).map f).Nodup := by
    rw [List.nodup_iff_pairwise_ne, List.pairwise_map]
    have := List.nodup_range (n := n)
    rw [List.nodup_iff_pairwise_ne] at this
    refine this.imp_of_mem fun {a b} ha hb hab e => hab ?_
    have ha := (h.1 a (List.mem_range.1 ha)).2
    have hb := (h.1 b (List.mem_range.1 hb)).2
    rw [← ha, ← hb, e]
  have := hn.length_le_of_subset (l₂ := List.range m) (fun y hy => by
    obtain ⟨x, hx, rfl⟩ := List.mem_map.1 hy
    exact List.mem_range.2 (h.1 x (List.mem_range.1 hx)).1)
  simpa using this
theorem Bij.eq {n m : Nat} {f g : Nat → Nat} (h : Bij n m f g) : n = m := Nat.le_antisymm h.le h.symm.le

/-- places of pebbles: 0 beside, x + 1 on the element x; both structures' places are in the same way -/
structure Fit (A B : Gr) (ps bs : List Nat) : Prop where
  len : ps.length = bs.length
  lay : ∀ i, i < ps.length → (ps.getD i 0 = 0 ↔ bs.getD i 0 = 0) ∧ ps.getD i 0 ≤ A.n ∧ bs.getD i 0 ≤ B.n
  set : ∀ i, i < ps.length → ps.getD i 0 ≠ 0 → A.S (ps.getD i 0 - 1) = B.S (bs.getD i 0 - 1)
  rel : ∀ i j, i < ps.length → j < ps.length → ps.getD i 0 ≠ 0 → ps.getD j 0 ≠ 0 → (ps.getD i 0 = ps.getD j 0 ↔ bs.getD i 0 = bs.getD j 0) ∧ A.R (ps.getD i 0 - 1) (ps.getD j 0 - 1) = B.R (bs.getD i 0 - 1) (bs.getD j 0 - 1)
theorem Fit.symm {A B : Gr} {ps bs : List Nat} (h : Fit A B ps bs) : Fit B A bs ps where
  len := h.len.symm
  lay := fun i hi => by rw [← h.len] at hi; obtain ⟨a, b, c⟩ := h.lay i hi; exact ⟨a.symm, c, b⟩
  set := fun i hi hn => by rw [← h.len] at hi; exact (h.set i hi (fun e => hn ((h.lay i hi).1.1 e))).symm
  rel := fun i j hi hj hni hnj => by
    rw [← h.len] at hi hj
    obtain ⟨a, b⟩ := h.rel i j hi hj (fun e => hni ((h.lay i hi).1.1 e)) (fun e => hnj ((h.lay j hj).1.1 e))
    exact ⟨a.symm, b.symm⟩
theorem Fit.trans {A B C : Gr} {ps bs cs : List Nat} (h : Fit A B ps bs) (h2 : Fit B C bs cs) : Fit A C ps cs where
  len := h.len.trans h2.len
  lay := fun i hi => by
    have hb : i < bs.length := by rw [← h.len]; exact hi
    obtain ⟨a, b, _⟩ := h.lay i hi
    obtain ⟨a2, _, c2⟩ := h2.lay i hb
    exact ⟨a.trans a2, b, c2⟩
  set := fun i hi hn => by
    have hb : i < bs.length := by rw [← h.len]; exact hi
    exact (h.set i hi hn).trans (h2.set i hb (fun e => hn ((h.lay i hi).1.2 e)))
  rel := fun i j hi hj hni hnj => by
    have hbi : i < bs.length := by rw [← h.len]; exact hi
    have hbj : j < bs.length := by rw [← h.len]; exact hj
    obtain ⟨a, b⟩ := h.rel i j hi hj hni hnj
    obtain ⟨a2, b2⟩ := h2.rel i j hbi hbj (fun e => hni ((h.lay i hi).1.2 e)) (fun e => hnj ((h.lay j hj).1.2 e))
    exact ⟨a.trans a2, b.trans b2⟩
/-- places on a structure -/
def Ok (A : Gr) (ps : List Nat) : Prop := ∀ i, i < ps.length → ps.getD i 0 ≤ A.n
theorem Fit.refl {A : Gr} {ps : List Nat} (h : Ok A ps) : Fit A A ps ps where
  len := rfl
  lay := fun i hi => ⟨Iff.rfl, h i hi, h i hi⟩
  set := fun _ _ _ => rfl
  rel := fun _ _ _ _ _ _ => ⟨Iff.rfl, rfl⟩
theorem Fit.ok {A B : Gr} {ps bs : List Nat} (h : Fit A B ps bs) : Ok A ps := fun i hi => (h.lay i hi).2.1
/-- a pebble is put -/
theorem get_set {ps : List Nat} {i j v : Nat} (hi : i < ps.length) : (ps.set i v).getD j 0 = if i = j then v else ps.getD j 0 := by
  rw [List.getD_eq_getElem?_getD, List.getD_eq_getElem?_getD, List.getElem?_set]
  by_cases h : i = j
  · subst h; rw [if_pos rfl, if_pos rfl, if_pos hi]; rfl
  · rw [if_neg h, if_neg h]
theorem Ok.put {A : Gr} {ps : List Nat} (h : Ok A ps) {i v : Nat} (hi : i < ps.length) (hv : v ≤ A.n) : Ok A (ps.set i v) := fun j hj => by
  rw [List.length_set] at hj
  rw [get_set hi]
  split
  · exact hv
  · exact h j hj
theorem set_set {ps : List Nat} {i v u : Nat} : (ps.set i v).set i u = ps.set i u := by simp
/-- the second player wins a counting game of so many turns -/
def Cw (A B : Gr) : Nat → List Nat → List Nat → Prop
  | 0, ps, bs => Fit A B ps bs
  | n + 1, ps, bs => Fit A B ps bs ∧ ∀ i, i < ps.length → ∃ f g, Bij A.n B.n f g ∧ ∀ x, x < A.n → Cw A B n (ps.set i (x + 1)) (bs.set i (f x + 1))
/-- the same without counting -/
def Pw (A B : Gr) : Nat → List Nat → List Nat → Prop
  | 0, ps, bs => Fit A B ps bs
  | n + 1, ps, bs => Fit A B ps bs ∧ ∀ i, i < ps.length → (∀ x, x < A.n → ∃ y, y < B.n ∧ Pw A B n (ps.set i (x + 1)) (bs.set i (y + 1))) ∧ ∀ y, y < B.n → ∃ x, x < A.n ∧ Pw A B n (ps.set i (x + 1)) (bs.set i (y + 1))
section
variable {A B C : Gr}
theorem Cw.fit : ∀ {n : Nat} {ps bs : List Nat}, Cw A B n ps bs → Fit A B ps bs
  | 0, _, _, h => h
  | _ + 1, _, _, h => h.1
theorem Pw.fit : ∀ {n : Nat} {ps bs : List Nat}, Pw A B n ps bs → Fit A B ps bs
  | 0, _, _, h => h
  | _ + 1, _, _, h => h.1
theorem Cw.less : ∀ {n : Nat} {ps bs : List Nat}, Cw A B (n + 1) ps bs → Cw A B n ps bs
  | 0, _, _, h => h.1
  | n + 1, ps, bs, h => ⟨h.1, fun i hi => by
    obtain ⟨f, g, hb, hc⟩ := h.2 i hi
    exact ⟨f, g, hb, fun x hx => (hc x hx).less⟩⟩
theorem Cw.le {n m : Nat} {ps bs : List Nat} (h : Cw A B n ps bs) (hm : m ≤ n) : Cw A B m ps bs := by
  induction n with
  | zero => obtain rfl : m = 0 := by omega
            exact h
  | succ n ih =>
    by_cases e : m = n + 1
    · rw [e]; exact h
    · exact ih h.less (by omega)
theorem Pw.less : ∀ {n : Nat} {ps bs : List Nat}, Pw A B (n + 1) ps bs → Pw A B n ps bs
  | 0, _, _, h => h.1
  | n + 1, ps, bs, h => ⟨h.1, fun i hi => ⟨fun x hx => by
    obtain ⟨y, hy, hw⟩ := (h.2 i hi).1 x hx
    exact ⟨y, hy, hw.less⟩, fun y hy => by
    obtain ⟨x, hx, hw⟩ := (h.2 i hi).2 y hy
    exact ⟨x, hx, hw.less⟩⟩⟩
theorem Cw.pw : ∀ {n : Nat} {ps bs : List Nat}, Cw A B n ps bs → Pw A B n ps bs
  | 0, _, _, h => h
  | n + 1, ps, bs, h => ⟨h.1, fun i hi => by
    obtain ⟨f, g, hb, hc⟩ := h.2 i hi
    refine ⟨fun x hx => ⟨f x, (hb.1 x hx).1, (hc x hx).pw⟩, fun y hy => ⟨g y, (hb.2 y hy).1, ?_⟩⟩
    have := (hc (g y) (hb.2 y hy).1).pw
    rw [(hb.2 y hy).2] at this; exact this⟩
theorem Cw.symm : ∀ {n : Nat} {ps bs : List Nat}, Cw A B n ps bs → Cw B A n bs ps
  | 0, _, _, h => Fit.symm h
  | n + 1, ps, bs, h => ⟨h.1.symm, fun i hi => by
    obtain ⟨f, g, hb, hc⟩ := h.2 i (by rw [h.1.len]; exact hi)
    refine ⟨g, f, hb.symm, fun y hy => ?_⟩
    have := (hc (g y) (hb.2 y hy).1).symm
    rw [(hb.2 y hy).2] at this; exact this⟩
theorem Cw.trans : ∀ {n : Nat} {ps bs cs : List Nat}, Cw A B n ps bs → Cw B C n bs cs → Cw A C n ps cs
  | 0, _, _, _, h, h2 => Fit.trans h h2
  | n + 1, ps, bs, cs, h, h2 => ⟨h.1.trans h2.1, fun i hi => by
    obtain ⟨f, g, hb, hc⟩ := h.2 i hi
    obtain ⟨p, q, hb2, hc2⟩ := h2.2 i (by rw [← h.1.len]; exact hi)
    exact ⟨p ∘ f, g ∘ q, hb.trans hb2, fun x hx => (hc x hx).trans (hc2 (f x) (hb.1 x hx).1)⟩⟩
theorem Cw.refl : ∀ {n : Nat} {ps : List Nat}, Ok A ps → Cw A A n ps ps
  | 0, _, h => Fit.refl h
  | n + 1, ps, h => ⟨Fit.refl h, fun i hi => ⟨id, id, Bij.refl _, fun x hx => Cw.refl (h.put hi (by omega))⟩⟩
theorem Cw.size {n : Nat} {ps bs : List Nat} (h : Cw A B (n + 1) ps bs) (hl : 0 < ps.length) : A.n = B.n := by
  obtain ⟨f, g, hb, _⟩ := h.2 0 hl
  exact hb.eq
/-- the winning relation is one of blocks -/
theorem Cw.block {n : Nat} {ps bs ps' bs' : List Nat} (h : Cw A B n ps bs) (h2 : Cw A B n ps' bs) (h3 : Cw A B n ps' bs') : Cw A B n ps bs' := (h.trans h2.symm).trans h3
/-- one turn after a game, whatever it was told -/
theorem Cw.step {n : Nat} {ps bs : List Nat} : Cw A B (n + 1) ps bs ↔ Cw A B n ps bs ∧ ∀ i, i < ps.length → ∃ f g, Bij A.n B.n f g ∧ ∀ x, x < A.n → Cw A B n (ps.set i (x + 1)) (bs.set i (f x + 1)) :=
  ⟨fun h => ⟨h.less, h.2⟩, fun h => ⟨h.1.fit, h.2⟩⟩
/-- if one turn more tells nothing apart, no number of turns does -/
theorem Cw.stay {n k : Nat} (h : ∀ ps bs, ps.length = k → Ok A ps → Ok B bs → Cw A B n ps bs → Cw A B (n + 1) ps bs) : ∀ (m : Nat) (ps bs : List Nat), ps.length = k → Ok A ps → Ok B bs → Cw A B n ps bs → Cw A B (n + m) ps bs
  | 0, _, _, _, _, _, hc => hc
  | m + 1, ps, bs, hl, ha, hb, hc => by
    have h1 := h ps bs hl ha hb hc
    refine ⟨hc.fit, fun i hi => ?_⟩
    obtain ⟨f, g, hbi, hcs⟩ := h1.2 i hi
    refine ⟨f, g, hbi, fun x hx => Cw.stay h m _ _ (by rw [List.length_set]; exact hl) (ha.put hi (by omega)) (hb.put (by rw [← hc.fit.len]; exact hi) (by have := (hbi.1 x hx).1; omega)) (hcs x hx)⟩
theorem Pw.stay {n k : Nat} (h : ∀ ps bs, ps.length = k → Ok A ps → Ok B bs → Pw A B n ps bs → Pw A B (n + 1) ps bs) : ∀ (m : Nat) (ps bs : List Nat), ps.length = k → Ok A ps → Ok B bs → Pw A B n ps bs → Pw A B (n + m) ps bs
  | 0, _, _, _, _, _, hc => hc
  | m + 1, ps, bs, hl, ha, hb, hc => by
    have h1 := h ps bs hl ha hb hc
    refine ⟨hc.fit, fun i hi => ⟨fun x hx => ?_, fun y hy => ?_⟩⟩
    · obtain ⟨y, hy, hw⟩ := (h1.2 i hi).1 x hx
      exact ⟨y, hy, Pw.stay h m _ _ (by rw [List.length_set]; exact hl) (ha.put hi (by omega)) (hb.put (by rw [← hc.fit.len]; exact hi) (by omega)) hw⟩
    · obtain ⟨x, hx, hw⟩ := (h1.2 i hi).2 y hy
      exact ⟨x, hx, Pw.stay h m _ _ (by rw [List.length_set]; exact hl) (ha.put hi (by omega)) (hb.put (by rw [← hc.fit.len]; exact hi) (by omega)) hw⟩
end
end Go.Proofs.YtpcnoiigbmiejaaDoor.peb

/- Lists that are the same but for the order, and one element to one. No program in sight. -/
namespace Go.Proofs.YtpcnoiigbmiejaaDoor.peb
set_option linter.unusedVariables false
set_option linter.unusedSimpArgs false

theorem perm_idx {α : Type} {l m : List α} (h : l.Perm m) : ∃ f g, Bij l.length m.length f g ∧ ∀ i, i < l.length → l[i]? = m[f i]? := by
  induction h with
  | nil => exact ⟨id, id, Bij.refl _, fun _ _ => rfl⟩
  | @cons a l m _ ih =>
    obtain ⟨f, g, hb, he⟩ := ih
    refine ⟨fun i => if i = 0 then 0 else f (i - 1) + 1, fun i => if i = 0 then 0 else g (i - 1) + 1, ⟨fun i hi => ?_, fun i hi => ?_⟩, fun i hi => ?_⟩
    · cases i with
      | zero => simp
      | succ i =>
        rw [List.length_cons] at hi ⊢
        obtain ⟨h1, h2⟩ := hb.1 i (by omega)
        simp only [Nat.add_one_ne_zero, if_false, Nat.add_sub_cancel]
        exact ⟨by omega, by rw [h2]⟩
    · cases i with
      | zero => simp
      | succ i =>
        rw [List.length_cons] at hi ⊢
        obtain ⟨h1, h2⟩ := hb.2 i (by omega)
        simp only [Nat.add_one_ne_zero, if_false, Nat.add_sub_cancel]
        exact ⟨by omega, by rw [h2]⟩
    · cases i with
      | zero => simp
      | succ i =>
        rw [List.length_cons] at hi
        simp only [Nat.add_one_ne_zero, if_false, Nat.add_sub_cancel, List.getElem?_cons_succ]
        exact he i (by omega)
  | swap a b l =>
    have key : ∀ i : Nat, i < l.length + 1 + 1 → (if i = 0 then 1 else if i = 1 then 0 else i) < l.length + 1 + 1 ∧ (if (if i = 0 then 1 else if i = 1 then 0 else i) = 0 then 1 else if (if i = 0 then 1 else if i = 1 then 0 else i) = 1 then 0 else (if i = 0 then 1 else if i = 1 then 0 else i)) = i := fun i hi => by
      by_cases h0 : i = 0
      · subst h0; simp
      · by_cases h1 : i = 1
        · subst h1; simp
        · rw [if_neg h0, if_neg h1, if_neg h0, if_neg h1]; exact ⟨hi, rfl⟩
    refine ⟨fun i => if i = 0 then 1 else if i = 1 then 0 else i, fun i => if i = 0 then 1 else if i = 1 then 0 else i, ⟨fun i hi => key i hi, fun i hi => key i hi⟩, fun i _ => ?_⟩
    match i with
    | 0 => rfl
    | 1 => rfl
    | i + 2 => simp
  | @trans l m k _ _ ih1 ih2 =>
    obtain ⟨f, g, hb, he⟩ := ih1
    obtain ⟨p, q, hb2, he2⟩ := ih2
    exact ⟨p ∘ f, g ∘ q, hb.trans hb2, fun i hi => (he i hi).trans (he2 (f i) (hb.1 i hi).1)⟩
theorem bij_perm {n m : Nat} {f g : Nat → Nat} (h : Bij n m f g) : ((List.range n).map f).Perm (List.range m) := by
  refine (List.perm_ext_iff_of_nodup ?_ List.nodup_range).2 fun y => ?_
  · rw [List.Nodup, List.pairwise_map]
    exact List.Pairwise.imp_of_mem (fun {i j} hi hj hij e => hij (by
      rw [← (h.1 i (List.mem_range.1 hi)).2, e, (h.1 j (List.mem_range.1 hj)).2])) List.nodup_range
  · rw [List.mem_map, List.mem_range]
    constructor
    · rintro ⟨i, hi, rfl⟩; exact (h.1 i (List.mem_range.1 hi)).1
    · intro hy; exact ⟨g y, List.mem_range.2 (h.2 y hy).1, (h.2 y hy).2⟩
/-- the same keys, each as often: one element to one with the same key -/
theorem keys_bij {κ : Type} {n m : Nat} {K L : Nat → κ} : ((List.range n).map K).Perm ((List.range m).map L) ↔ ∃ f g, Bij n m f g ∧ ∀ x, x < n → K x = L (f x) := by
  constructor
  · intro h
    obtain ⟨f, g, hb, he⟩ := perm_idx h
    simp only [List.length_map, List.length_range] at hb he
    refine ⟨f, g, hb, fun x hx => ?_⟩
    have := he x hx
    rw [List.getElem?_map, List.getElem?_map, List.getElem?_range hx, List.getElem?_range (hb.1 x hx).1] at this
    exact Option.some.inj this
  · rintro ⟨f, g, hb, he⟩
    have e : (List.range n).map K = ((List.range n).map f).map L := by
      rw [List.map_map]
      exact List.map_congr_left fun x hx => he x (List.mem_range.1 hx)
    rw [e]
    exact (bij_perm hb).map L
end Go.Proofs.YtpcnoiigbmiejaaDoor.peb

/- When formulas are true, in plain words; two variables and counting games with two pebbles. No program in sight. -/
namespace Go.Proofs.YtpcnoiigbmiejaaDoor.sat
set_option linter.unusedVariables false
set_option linter.unusedSimpArgs false
open Go.Proofs.YtpcnoiigbmiejaaDoor.game Go.Proofs.YtpcnoiigbmiejaaDoor.fm Go.Proofs.YtpcnoiigbmiejaaDoor.peb

def put (e : Nat → Nat) (v x : Nat) (u : Nat) : Nat := if u = v then x else e u
/-- what a quantifier asks of how many elements there are -/
def enough (o : UInt8) (n c : Nat) : Bool := if o = 65 then decide (c = n) else if o = 83 then decide (0 < c) else decide (o.toNat - 48 ≤ c)
def sat (A : Gr) : Fm → (Nat → Nat) → Bool
  | .tf c, _ => decide (c = 116)
  | .p v, e => A.S (e v)
  | .r o v u, e => if o = 61 then decide (e v = e u) else A.R (e v) (e u)
  | .no a, e => !sat A a e
  | .two o a b, e => if o = 38 then sat A a e && sat A b e else sat A a e || sat A b e
  | .qu o v a, e => enough o A.n ((List.range A.n).countP fun x => sat A a (put e v x))
theorem bit_sh {v u : Nat} : (1 <<< v).testBit u = decide (v = u) := by
  rw [Nat.one_shiftLeft, Nat.testBit_two_pow]
theorem bit_not : ∀ v : Fin 4, ∀ u : Fin 4, (15 ^^^ 1 <<< v.1).testBit u.1 = decide (v.1 ≠ u.1) := by decide
/-- only the free variables count -/
theorem sat_free {A : Gr} : ∀ {a : Fm} {e e' : Nat → Nat}, a.ok → (∀ u, u < 4 → a.free.testBit u = true → e u = e' u) → sat A a e = sat A a e'
  | .tf _, _, _, _, _ => rfl
  | .p v, e, e', hk, h => by
    have : v < 4 := hk
    show A.S (e v) = A.S (e' v)
    rw [h v this (by show (1 <<< v).testBit v = true; rw [bit_sh]; simp)]
  | .r o v u, e, e', hk, h => by
    have e1 := h v hk.2.1 (by show (1 <<< v ||| 1 <<< u).testBit v = true; rw [Nat.testBit_or, bit_sh]; simp)
    have e2 := h u hk.2.2 (by show (1 <<< v ||| 1 <<< u).testBit u = true; rw [Nat.testBit_or, bit_sh, bit_sh]; simp)
    unfold sat
    rw [e1, e2]
  | .no a, e, e', hk, h => by
    unfold sat
    rw [sat_free (a := a) hk h]
  | .two o a b, e, e', hk, h => by
    unfold sat
    rw [sat_free (a := a) hk.2.1 fun u hu hb => h u hu (by show (a.free ||| b.free).testBit u = true; rw [Nat.testBit_or, hb]; rfl), sat_free (a := b) hk.2.2 fun u hu hb => h u hu (by show (a.free ||| b.free).testBit u = true; rw [Nat.testBit_or, hb, Bool.or_true])]
  | .qu o v a, e, e', hk, h => by
    unfold sat
    congr 1
    refine List.countP_congr fun x _ => ?_
    rw [sat_free (a := a) (e := put e v x) (e' := put e' v x) hk.2.2 fun u hu hb => ?_]
    unfold put
    by_cases huv : u = v
    · rw [if_pos huv, if_pos huv]
    · rw [if_neg huv, if_neg huv]
      refine h u hu ?_
      show (a.free &&& (15 ^^^ 1 <<< v)).testBit u = true
      have := bit_not ⟨v, hk.2.1⟩ ⟨u, hu⟩
      simp only at this
      rw [Nat.testBit_and, hb, this]
      simpa using fun e : v = u => huv e.symm
/-- how deep quantifiers are -/
def deep : Fm → Nat
  | .tf _ => 0
  | .p _ => 0
  | .r _ _ _ => 0
  | .no a => deep a
  | .two _ a b => max (deep a) (deep b)
  | .qu _ _ a => deep a + 1
/-- only the first two variables -/
def only2 : Fm → Prop
  | .tf _ => True
  | .p v => v < 2
  | .r _ v u => v < 2 ∧ u < 2
  | .no a => only2 a
  | .two _ a b => only2 a ∧ only2 b
  | .qu _ v a => v < 2 ∧ only2 a
theorem count_keys {n m : Nat} {K L : Nat → Bool} {f g : Nat → Nat} (hb : Bij n m f g) (h : ∀ x, x < n → K x = L (f x)) : (List.range n).countP K = (List.range m).countP L := by
  have := (keys_bij (n := n) (m := m) (K := K) (L := L)).2 ⟨f, g, hb, h⟩
  have := this.countP_eq id
  rw [List.countP_map, List.countP_map] at this
  exact this
/-- what two variables can say is the same where the second player wins the counting game with two pebbles -/
theorem two_vars {A B : Gr} : ∀ {a : Fm} {n : Nat} {ps bs : List Nat} {e e' : Nat → Nat}, a.ok → only2 a → deep a ≤ n → ps.length = 2 → Cw A B n ps bs → A.n = B.n →
    (∀ u, u < 2 → a.free.testBit u = true → ps.getD u 0 = e u + 1 ∧ bs.getD u 0 = e' u + 1) → sat A a e = sat B a e'
  | .tf _, _, _, _, _, _, _, _, _, _, _, _, _ => rfl
  | .p v, n, ps, bs, e, e', hk, h2, hd, hl, hc, hs, h => by
    have hv : v < 2 := h2
    obtain ⟨e1, e2⟩ := h v hv (by show (1 <<< v).testBit v = true; rw [bit_sh]; simp)
    have := hc.fit.set v (by omega) (by omega)
    rw [e1, e2] at this
    exact this
  | .r o v u, n, ps, bs, e, e', hk, h2, hd, hl, hc, hs, h => by
    obtain ⟨hv, hu⟩ := h2
    obtain ⟨e1, e2⟩ := h v hv (by show (1 <<< v ||| 1 <<< u).testBit v = true; rw [Nat.testBit_or, bit_sh]; simp)
    obtain ⟨e3, e4⟩ := h u hu (by show (1 <<< v ||| 1 <<< u).testBit u = true; rw [Nat.testBit_or, bit_sh, bit_sh]; simp)
    obtain ⟨r1, r2⟩ := hc.fit.rel v u (by omega) (by omega) (by omega) (by omega)
    rw [e1, e2, e3, e4] at r1 r2
    unfold sat
    split
    · rw [decide_eq_decide]; omega
    · exact r2
  | .no a, n, ps, bs, e, e', hk, h2, hd, hl, hc, hs, h => by
    unfold sat
    rw [two_vars (a := a) hk h2 hd hl hc hs h]
  | .two o a b, n, ps, bs, e, e', hk, h2, hd, hl, hc, hs, h => by
    have hd : max (deep a) (deep b) ≤ n := hd
    unfold sat
    rw [two_vars (a := a) hk.2.1 h2.1 (by omega) hl hc hs fun u hu hb => h u hu (by show (a.free ||| b.free).testBit u = true; rw [Nat.testBit_or, hb]; rfl),
      two_vars (a := b) hk.2.2 h2.2 (by omega) hl hc hs fun u hu hb => h u hu (by show (a.free ||| b.free).testBit u = true; rw [Nat.testBit_or, hb, Bool.or_true])]
  | .qu o v a, 0, ps, bs, e, e', hk, h2, hd, hl, hc, hs, h => by
    have hd : deep a + 1 ≤ 0 := hd
    omega
  | .qu o v a, n + 1, ps, bs, e, e', hk, h2, hd, hl, hc, hs, h => by
    have hd : deep a + 1 ≤ n + 1 := hd
    have hlb : bs.length = 2 := by rw [← hc.fit.len]; exact hl
    obtain ⟨f, g, hb, hf⟩ := hc.2 v (by have := h2.1; omega)
    have hcount : ((List.range A.n).countP fun x => sat A a (put e v x)) = (List.range B.n).countP fun x => sat B a (put e' v x) := count_keys hb fun x hx => ?_
    · unfold sat
      rw [hcount, hs]
    refine two_vars (a := a) hk.2.2 h2.2 (by omega) (by rw [List.length_set]; exact hl) (hf x hx) hs fun u hu hbit => ?_
    rw [get_set (by have := h2.1; omega), get_set (by have := h2.1; omega)]
    unfold put
    by_cases huv : u = v
    · rw [if_pos huv, if_pos huv, if_pos huv.symm, if_pos huv.symm]; exact ⟨rfl, rfl⟩
    · rw [if_neg huv, if_neg huv, if_neg (fun e => huv e.symm), if_neg (fun e => huv e.symm)]
      refine h u hu ?_
      show (a.free &&& (15 ^^^ 1 <<< v)).testBit u = true
      have := bit_not ⟨v, hk.2.1⟩ ⟨u, by omega⟩
      simp only at this
      rw [Nat.testBit_and, hbit, this]
      simpa using fun e : v = u => huv e.symm
theorem two_of {v : Nat} (hv : v < 4) (h : vb v ≠ 99 ∧ vb v ≠ 100) : v < 2 := by
  have h1 := vb_nat hv
  refine Classical.byContradiction fun hn => ?_
  rcases (by omega : v = 2 ∨ v = 3) with rfl | rfl
  · exact h.1 (UInt8.toNat_inj.1 h1)
  · exact h.2 (UInt8.toNat_inj.1 h1)
/-- the letters of a text: only the first two variables if neither c nor d stands there -/
theorem only_txt : ∀ {a : Fm}, a.ok → (∀ c, c ∈ a.txt → c ≠ 99 ∧ c ≠ 100) → only2 a
  | .tf _, _, _ => trivial
  | .p v, hk, h => by
    have hv : v < 4 := hk
    have := h (vb v) (by simp [Fm.txt])
    exact two_of hv this
  | .r o v u, hk, h => ⟨two_of hk.2.1 (h _ (by simp [Fm.txt])), two_of hk.2.2 (h _ (by simp [Fm.txt]))⟩
  | .no a, hk, h => only_txt (a := a) hk fun c hc => h c (by simp [Fm.txt, hc])
  | .two o a b, hk, h => ⟨only_txt (a := a) hk.2.1 fun c hc => h c (by simp [Fm.txt, hc]), only_txt (a := b) hk.2.2 fun c hc => h c (by simp [Fm.txt, hc])⟩
  | .qu o v a, hk, h => ⟨two_of hk.2.1 (h _ (by simp [Fm.txt])), only_txt (a := a) hk.2.2 fun c hc => h c (by simp [Fm.txt, hc])⟩
end Go.Proofs.YtpcnoiigbmiejaaDoor.sat

/- Keys of values: the values of the free variables in one number. No program in sight. -/
namespace Go.Proofs.YtpcnoiigbmiejaaDoor.keys
set_option linter.unusedVariables false
set_option linter.unusedSimpArgs false
open Go.Proofs.YtpcnoiigbmiejaaDoor.game Go.Proofs.YtpcnoiigbmiejaaDoor.fm Go.Proofs.YtpcnoiigbmiejaaDoor.peb Go.Proofs.YtpcnoiigbmiejaaDoor.sat
theorem put_same (e : Nat → Nat) (v x : Nat) : sat.put e v x v = x := by unfold sat.put; rw [if_pos rfl]
theorem put_else {e : Nat → Nat} {v u x : Nat} (h : u ≠ v) : sat.put e v x u = e u := by unfold sat.put; rw [if_neg h]
/-! keys: the values of the free variables in one number -/
def keyF (s : Nat) (e : Nat → Nat) : Nat → Nat
  | 0 => 0
  | i + 1 => if inS s i = true then keyF s e i ||| e i <<< (3 * i) else keyF s e i
theorem key_lt {s : Nat} {e : Nat → Nat} (h : ∀ u, u < 4 → e u < 8) : ∀ i, i ≤ 4 → keyF s e i < 2 ^ (3 * i)
  | 0, _ => by show 0 < 2 ^ 0; decide
  | i + 1, hi => by
    have ih := key_lt (s := s) h i (by omega)
    have hp : 2 ^ (3 * (i + 1)) = 2 ^ (3 * i) * 8 := by rw [Nat.mul_add, Nat.pow_add]
    have he := h i (by omega)
    unfold keyF
    split
    · refine Nat.or_lt_two_pow (by rw [hp]; omega) ?_
      rw [Nat.shiftLeft_eq, hp, Nat.mul_comm]
      exact Nat.mul_lt_mul_of_pos_left he (Nat.pow_pos (by decide))
    · rw [hp]; omega
theorem key_inj {s : Nat} {e e' : Nat → Nat} (h : ∀ u, u < 4 → e u < 8) (h' : ∀ u, u < 4 → e' u < 8) : ∀ i, i ≤ 4 → keyF s e i = keyF s e' i → ∀ u, u < i → inS s u = true → e u = e' u
  | 0, _, _, u, hu, _ => by omega
  | i + 1, hi, hk, u, hu, hb => by
    have l1 := key_lt (s := s) h i (by omega)
    have l2 := key_lt (s := s) h' i (by omega)
    unfold keyF at hk
    by_cases hs : inS s i = true
    · rw [if_pos hs, if_pos hs, Nat.or_comm, Nat.or_comm (keyF s e' i), Nat.shiftLeft_eq, Nat.shiftLeft_eq, Nat.mul_comm, Nat.mul_comm (e' i), ← Nat.two_pow_add_eq_or_of_lt l1, ← Nat.two_pow_add_eq_or_of_lt l2] at hk
      have hd : e i = e' i := by
        have h1 : (2 ^ (3 * i) * e i + keyF s e i) / 2 ^ (3 * i) = e i := by rw [Nat.mul_add_div (Nat.pow_pos (by decide)), Nat.div_eq_of_lt l1]; rfl
        have h2 : (2 ^ (3 * i) * e' i + keyF s e' i) / 2 ^ (3 * i) = e' i := by rw [Nat.mul_add_div (Nat.pow_pos (by decide)), Nat.div_eq_of_lt l2]; rfl
        rw [hk] at h1; omega
      by_cases hui : u = i
      · rw [hui]; exact hd
      · rw [hd] at hk
        exact key_inj h h' i (by omega) (by omega) u (by omega) hb
    · rw [if_neg hs, if_neg hs] at hk
      by_cases hui : u = i
      · rw [hui] at hb; exact absurd hb hs
      · exact key_inj h h' i (by omega) hk u (by omega) hb
theorem inS_bit : ∀ s : Fin 16, ∀ u : Fin 4, s.1.testBit u.1 = inS s.1 u.1 := by decide
/-- the same key: the same truth -/
theorem sat_key {A : Gr} {a : Fm} {e e' : Nat → Nat} (hk : a.ok) (h : ∀ u, u < 4 → e u < 8) (h' : ∀ u, u < 4 → e' u < 8) (hkey : keyF a.free e 4 = keyF a.free e' 4) : sat A a e = sat A a e' :=
  sat_free hk fun u hu hb => key_inj h h' 4 (Nat.le_refl _) hkey u hu (by rw [← inS_bit ⟨a.free, Fm.free_lt hk⟩ ⟨u, hu⟩]; exact hb)
end Go.Proofs.YtpcnoiigbmiejaaDoor.keys

/- DistanceFormula in the program and in the reference. -/
namespace Go.Proofs.YtpcnoiigbmiejaaDoor.df
set_option linter.unusedVariables false
set_option linter.unusedSimpArgs false
open Go.ChangeShapes Go.WideShapes Go.ChangeAt Go.RowKit
open Go.Proofs.YtpcnoiigbmiejaaDoor.lib

/-- the formula for a distance: v and h are the variables that are exchanged -/
def wl : Nat → UInt8 → UInt8 → List UInt8
  | 0, v, _ => [61, v, 98]
  | d + 1, v, h => [124, 61, v, 98, 83, h, 38, 124, 69, v, h, 69, h, v] ++ wl d h v
theorem wl_len : ∀ (d : Nat) (v h : UInt8), (wl d v h).length = 14 * d + 3
  | 0, _, _ => rfl
  | d + 1, v, h => by rw [wl, List.length_append, wl_len d h v]; simp; omega
def wb (d : Nat) (v h : UInt8) : ByteArray := ⟨(wl d v h).toArray⟩
theorem wb_size (d : Nat) (v h : UInt8) : (wb d v h).size = 14 * d + 3 := by
  show (wl d v h).toArray.size = _
  rw [List.size_toArray, wl_len]

set_option maxHeartbeats 400000 in
theorem within_any : ∀ (d : Nat), d ≤ 100 → (∀ w : World, Calls Tryd.prog 85 #[.int .i64 d, .string ⟨#[97]⟩, .string ⟨#[98]⟩, .string ⟨#[99]⟩] w fun e w' => e = .returned (.string (wb d 97 99)) ∧ w = w') ∧
    (∀ w : World, Calls Tryd.prog 85 #[.int .i64 d, .string ⟨#[99]⟩, .string ⟨#[98]⟩, .string ⟨#[97]⟩] w fun e w' => e = .returned (.string (wb d 99 97)) ∧ w = w')
  | 0, _ => by
    constructor
    all_goals
      intro w
      go_enter Tryd.func85, Tryd.ntmps85
      go_wp2
      go_ret
      exact ⟨rfl, rfl⟩
  | d + 1, hd => by
    obtain ⟨ih1, ih2⟩ := within_any d (by omega)
    have I1 := Lib.hid ih1
    have I2 := Lib.hid ih2
    clear ih1 ih2
    have z1 : (wb d 99 97).size ≤ 2000 := by rw [wb_size]; omega
    have z2 : (wb d 97 99).size ≤ 2000 := by rw [wb_size]; omega
    have cat : ∀ (A B : List UInt8) (x : ByteArray), x = ⟨B.toArray⟩ → ∀ y : ByteArray, y.data.toList = A → y ++ x = ⟨(A ++ B).toArray⟩ := by
      rintro A B x rfl y rfl
      apply ByteArray.ext
      rw [ByteArray.data_append]
      simp
    have CAT := Lib.hid cat
    clear cat
    constructor
    · intro w
      go_enter Tryd.func85, Tryd.ntmps85
      go_wp2_with fail
      refine (I2.out _).mono ?_
      rintro e w1 ⟨rfl, rfl⟩
      go_wp2
      go_ret
      exact ⟨congrArg (fun b => Ending.returned (Value.string b)) (CAT.out [124, 61, 97, 98, 83, 99, 38, 124, 69, 97, 99, 69, 99, 97] _ _ rfl _ rfl), rfl⟩
    · intro w
      go_enter Tryd.func85, Tryd.ntmps85
      go_wp2_with fail
      refine (I1.out _).mono ?_
      rintro e w1 ⟨rfl, rfl⟩
      go_wp2
      go_ret
      exact ⟨congrArg (fun b => Ending.returned (Value.string b)) (CAT.out [124, 61, 99, 98, 83, 97, 38, 124, 69, 99, 97, 69, 97, 99] _ _ rfl _ rfl), rfl⟩
end Go.Proofs.YtpcnoiigbmiejaaDoor.df
