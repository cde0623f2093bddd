/- General words of this seat: slices of integers as lists, their reading and their growth. No program in sight. -/
import Derived.WalkKit
import Derived.ProofKit
import Derived.OpenShut
import Derived.Lib.Hide
import Derived.Laws.AppendOwn
import Derived.Laws.OwnMore
import Derived.WalkSmall
import Derived.Deep.AppendLies
import Derived.Deep.RegionLaw
import Derived.Laws.AppendOwnNone
namespace Go.Proofs.YtpcnoiigbmiejaaDoor.lib
set_option linter.unusedVariables false
set_option linter.unusedSimpArgs false
open Go.RowKit

/-- the integers as cells -/
def ivs (l : List Int) : List Value := l.map (Value.int .i64)
theorem ivs_length (l : List Int) : (ivs l).length = l.length := by simp [ivs]
theorem ivs_append (l m : List Int) : ivs (l ++ m) = ivs l ++ ivs m := by simp [ivs]
theorem ivs_get (l : List Int) (i : Nat) (h : i < l.length) : (ivs l)[i]? = some (.int .i64 (l.getD i 0)) := by
  simp [ivs, List.getElem?_map, h, List.getD_eq_getElem?_getD]

/-- v owns the list l of integers (element type T) in blocks from B on -/
def OwnI (T : TypeId) (w : World) (B : Nat) (v : Value) (l : List Int) : Prop := w.ownsRow B T 1 v l.length (ivs l)

/-- v is a slice that reads as l -/
def Reads (w : World) (v : Value) (l : List Int) : Prop :=
  ∃ ao cap, v = .slice ao l.length cap ∧ (l = [] ∨ ∃ b off, ao = some ⟨b, off, none⟩ ∧ ∀ i, i < l.length → w.cell? ⟨b, off + i, none⟩ = some (.int .i64 (l.getD i 0))) ∧ (ao = none → l.length = 0 ∧ cap = 0)

theorem OwnI.nil (T : TypeId) (w : World) (B : Nat) : OwnI T w B (.slice none 0 0) [] := World.ownsRow_nil _ _ _ _

theorem OwnI.reads {T : TypeId} {w : World} {B : Nat} {v : Value} {l : List Int} (h : OwnI T w B v l) : Reads w v l := by
  have h0 := h
  rcases h.2 with ⟨rfl, hn⟩ | ⟨g, cap, cur, rfl, _⟩
  · exact ⟨none, 0, by rw [hn], .inl (List.length_eq_zero_iff.1 hn), fun _ => ⟨hn, rfl⟩⟩
  · refine ⟨_, _, rfl, .inr ⟨g, 0, rfl, fun i hi => ?_⟩, fun h => by cases h⟩
    have := h0.cellAt i (by omega)
    rw [Nat.zero_add, this, ivs_get l i hi]

theorem OwnI.mono {T : TypeId} {w : World} {B B' : Nat} {v : Value} {l : List Int} (h : OwnI T w B v l) (hB : B' ≤ B) : OwnI T w B' v l := by
  refine ⟨h.1, ?_⟩
  rcases h.2 with hn | ⟨g, cap, cur, hv, hb, r⟩
  · exact .inl hn
  · exact .inr ⟨g, cap, cur, hv, by omega, r⟩

theorem OwnI.below {T : TypeId} {w w' : World} {B C : Nat} {v : Value} {l : List Int} (h : OwnI T w B v l) (hb : Below C w w') (hC : w.heap.size ≤ C) : OwnI T w' B v l := by
  refine ⟨h.1, ?_⟩
  rcases h.2 with hn | ⟨g, cap, cur, hv, hg, hh, r⟩
  · exact .inl hn
  · have := (Array.getElem?_eq_some_iff.1 hh).1
    exact .inr ⟨g, cap, cur, hv, hg, by rw [hb.block g (by omega)]; exact hh, r⟩

theorem Reads.below {w w' : World} {C : Nat} {v : Value} {l : List Int} (h : Reads w v l) (hb : Below C w w') (hC : w.heap.size ≤ C) : Reads w' v l := by
  obtain ⟨ao, cap, hv, h, hnn⟩ := h
  refine ⟨ao, cap, hv, ?_, hnn⟩
  rcases h with h | ⟨b, off, ha, hc⟩
  · exact .inl h
  · refine .inr ⟨b, off, ha, fun i hi => ?_⟩
    have hx := hc i hi
    have hlt := World.block_lt_of_cell? w _ hx
    rw [hb.cell (p := ⟨b, off + i, none⟩) (by show b < C; have : b < w.heap.size := hlt; omega)]
    exact hx

/-- a slice that is nil or begins at a place -/
theorem Reads.len {w : World} {v : Value} {l : List Int} (h : Reads w v l) : ∃ ao cap, v = .slice ao l.length cap := by
  obtain ⟨ao, cap, hv, _⟩ := h; exact ⟨ao, cap, hv⟩

theorem below_of_grown {B : Nat} {w w' : World} {row : Option Nat} (hg : w.grownBy w' row) (hB : B ≤ w.heap.size) (hr : ∀ k, row = some k → B ≤ k) : Below B w w' :=
  (Below.refl B w).grown hg hB hr

/-- what an append to v leaves: at most v's own row is written; the new value lies in that row or in a new one -/
structure Grew (w w' : World) (v v' : Value) : Prop where
  grown : w.grownBy w' v.ownBlock
  blk : ∀ g, v'.ownBlock = some g → v.ownBlock = some g ∨ w.heap.size ≤ g

/-- two values lie in different rows -/
def Apart (v v2 : Value) : Prop := ∀ k, v.ownBlock = some k → v2.ownBlock ≠ some k

theorem Grew.below {w w' : World} {v v' : Value} {B : Nat} {e : TypeId} {n : Nat} {xs : List Value} (h : Grew w w' v v') (hv : w.ownsRow B e 1 v n xs) (hB : B ≤ w.heap.size) : Below B w w' :=
  below_of_grown h.grown hB fun k hk => (hv.lt k hk).1

theorem Grew.keep {w w' : World} {v v' : Value} {B2 : Nat} {e : TypeId} {v2 : Value} {n : Nat} {xs : List Value} (h : Grew w w' v v') (h2 : w.ownsRow B2 e 1 v2 n xs) (ha : Apart v v2) :
    w'.ownsRow B2 e 1 v2 n xs ∧ Apart v' v2 := by
  refine ⟨h2.kept h.grown ?_, fun k hk h2k => ?_⟩
  · cases hv : v.ownBlock with
    | none => cases h2b : v2.ownBlock <;> simp
    | some k => exact .inr (fun e => ha k hv e)
  · rcases h.blk k hk with hb | hb
    · exact ha k hb h2k
    · have := (h2.lt k h2k).2; omega

theorem Apart.symm {v v2 : Value} (h : Apart v v2) : Apart v2 v := fun k h2 h1 => h k h1 h2
theorem Apart.of_own {w w' : World} {B : Nat} {T T2 : TypeId} {v v2 : Value} {l l2 : List Int} (h : OwnI T w' w.heap.size v l) (h2 : OwnI T2 w B v2 l2) : Apart v v2 :=
  fun k hk h2k => by have := (World.ownsRow.lt h k hk).1; have := (World.ownsRow.lt h2 k h2k).2; omega


/-! owned rows at a written-out place -/
theorem OwnI.cell {T : TypeId} {w : World} {B g n cap : Nat} {l : List Int} (h : OwnI T w B (.slice (some ⟨g, 0, none⟩) n cap) l) (k : Nat) (hk : k < l.length) : w.cell? ⟨g, k, none⟩ = some (.int .i64 (l.getD k 0)) := by
  have hn : n = l.length := by
    rcases h.2 with ⟨h', _⟩ | ⟨g', cap', cur, h', _⟩
    · simp at h'
    · simp only [Value.slice.injEq] at h'; exact h'.2.1
  subst hn
  rw [World.ownsRow.cellAt h k (by omega), ivs_get l k hk]
theorem OwnI.free {T : TypeId} {w : World} {B g n cap : Nat} {l : List Int} (h : OwnI T w B (.slice (some ⟨g, 0, none⟩) n cap) l) (k : Nat) : w.frozen? ⟨g, k, none⟩ = false := by
  have hn : n = l.length := by
    rcases h.2 with ⟨h', _⟩ | ⟨g', cap', cur, h', _⟩
    · simp at h'
    · simp only [Value.slice.injEq] at h'; exact h'.2.1
  subst hn
  exact World.ownsRow.frozenAt h k
theorem OwnI.set {T : TypeId} {w : World} {B g n cap : Nat} {l : List Int} (h : OwnI T w B (.slice (some ⟨g, 0, none⟩) n cap) l) (k : Nat) (x : Int) :
    OwnI T (w.setCell ⟨g, k, none⟩ (.int .i64 x)) B (.slice (some ⟨g, 0, none⟩) n cap) (l.set k x) := by
  have hn : n = l.length := by
    rcases h.2 with ⟨h', _⟩ | ⟨g', cap', cur, h', _⟩
    · simp at h'
    · simp only [Value.slice.injEq] at h'; exact h'.2.1
  subst hn
  have := (World.ownsRow.stored h k (.int .i64 x)).1
  unfold OwnI
  rw [List.length_set]
  have e : (ivs l).set k (.int .i64 x) = ivs (l.set k x) := by simp [ivs, List.map_set]
  rw [← e]; exact this
theorem OwnI.ge {T : TypeId} {w : World} {B g n cap : Nat} {l : List Int} (h : OwnI T w B (.slice (some ⟨g, 0, none⟩) n cap) l) : B ≤ g ∧ g < w.heap.size := World.ownsRow.lt h g rfl
theorem OwnI.len {T : TypeId} {w : World} {B g n cap : Nat} {l : List Int} (h : OwnI T w B (.slice (some ⟨g, 0, none⟩) n cap) l) : n = l.length := by
  rcases h.2 with ⟨h', _⟩ | ⟨g', cap', cur, h', _⟩
  · simp at h'
  · simp only [Value.slice.injEq] at h'; exact h'.2.1
theorem OwnI.shape {T : TypeId} {w : World} {B : Nat} {v : Value} {l : List Int} (h : OwnI T w B v l) : (v = .slice none 0 0 ∧ l = []) ∨ ∃ g cap, v = .slice (some ⟨g, 0, none⟩) l.length cap := by
  rcases h.2 with ⟨h', hn⟩ | ⟨g', cap', cur, h', _⟩
  · exact .inl ⟨h', List.length_eq_zero_iff.1 hn⟩
  · exact .inr ⟨g', cap', h'⟩
theorem OwnI.made {T : TypeId} {w : World} {B : Nat} {v : Value} {n : Nat} (h : w.ownsRow B T 1 v n (madeCells #[Value.int .i64 0] n).toList) : OwnI T w B v (List.replicate n 0) := by
  have e : (madeCells #[Value.int .i64 0] n).toList = ivs (List.replicate n 0) := by simp [ivs, toList_madeCells_one]
  unfold OwnI
  rw [List.length_replicate, ← e]; exact h

theorem copy_step (l : List Int) (n k : Nat) (hn : n = l.length) (hk : k < n) :
    (l.take k ++ List.replicate (n - k) 0).set k (l.getD k 0) = l.take (k+1) ++ List.replicate (n - (k+1)) 0 ∧ k < (l.take k ++ List.replicate (n - k) (0:Int)).length := by
  subst hn
  have hkl : (l.take k).length = k := by simp; omega
  refine ⟨?_, by simp; omega⟩
  rw [List.set_append_right (h := by omega), hkl, Nat.sub_self, show l.length - k = (l.length - (k+1)) + 1 from by omega, List.replicate_succ, List.take_succ_eq_append_getElem hk, List.append_assoc]
  simp [List.getD_eq_getElem?_getD, List.getElem?_eq_getElem hk]

theorem take_step (l m : List Int) (k : Nat) (hl : k < l.length) (hm : k < m.length) (h : l.take k = m.take k) (hx : l.getD k 0 = m.getD k 0) : l.take (k+1) = m.take (k+1) := by
  rw [List.take_succ_eq_append_getElem hl, List.take_succ_eq_append_getElem hm, h]
  simp only [List.getD_eq_getElem?_getD, List.getElem?_eq_getElem hl, List.getElem?_eq_getElem hm, Option.getD_some] at hx
  rw [hx]
theorem eq_of_take (l m : List Int) (h : l.length = m.length) (ht : l.take l.length = m.take l.length) : l = m := by
  rw [List.take_of_length_le (Nat.le_refl _), List.take_of_length_le (by omega)] at ht; exact ht
theorem ne_of_getD (l m : List Int) (k : Nat) (hx : ¬ l.getD k 0 = m.getD k 0) : ¬ l = m := fun h => hx (by rw [h])

/-- the marks that the exact laws write: k, k + 1, .. -/
def marks (k : Int) (n : Nat) : List Int := (List.range n).map fun i : Nat => k + (i : Int)
theorem marks_length (k : Int) (n : Nat) : (marks k n).length = n := by simp [marks]
theorem marks_get (k : Int) (n i : Nat) (h : i < n) : (marks k n).getD i 0 = k + i := by simp [marks, List.getD_eq_getElem?_getD, h]
theorem marks_step (l : List Int) (k : Int) (j : Nat) (hj : j < l.length) : (marks k j ++ l.drop j).set j (k + j) = marks k (j + 1) ++ l.drop (j + 1) := by
  rw [List.set_append_right (h := by simp [marks_length])]
  rw [marks_length, Nat.sub_self, List.drop_eq_getElem_cons hj, List.set_cons_zero]
  simp [marks, List.range_succ]
theorem marks_full (l : List Int) (k : Int) : marks k l.length ++ l.drop l.length = marks k l.length := by simp

/-- the exact laws' helper on marks: the new count, or -1 -/
def held (l : List Int) (k : Int) : Int := if l = marks k l.length then k + l.length else -1
theorem held_marks (k : Int) (n : Nat) : held (marks k n) k = k + n := by simp [held, marks_length]

theorem OwnI.setGrown {T : TypeId} {w : World} {B g n cap : Nat} {l : List Int} (h : OwnI T w B (.slice (some ⟨g, 0, none⟩) n cap) l) (k : Nat) (x : Int) : w.grownBy (w.setCell ⟨g, k, none⟩ (.int .i64 x)) (some g) := by
  have hn := h.len
  subst hn
  exact (World.ownsRow.stored h k (.int .i64 x)).2
theorem grown_trans {w w1 w2 : World} {r : Option Nat} (p : w.grownBy w1 r) (q : w1.grownBy w2 r) : w.grownBy w2 r :=
  ⟨q.os.trans p.os, q.tape.trans p.tape, q.output.trans p.output, Nat.le_trans p.size q.size, fun k hk hne => (q.block k (Nat.lt_of_lt_of_le hk p.size) hne).trans (p.block k hk hne)⟩

/-- append to a slice of the call's own, of what lies at a place; the law of the operation alone -/
theorem wp_appL {P : Program} (w : World) {o : Oper} {a : Act} {K : Act → World → Prop} {Q : Exit → Act → World → Prop}
    (s x : Operand) (t : TypeId) (hop : o.op = Op.call { callee := Callee.builtin Builtin.append, args := #[s, x], argTypes := #[t, t] })
    (base : Nat) (e : TypeId) (z : Value) (bytes : Nat) (h1 : P.underlying t = some (.slice e)) (hinfo : (P.info? e).map (fun i => (i.zero, i.size, i.bytes)) = some (some z, 1, bytes)) (hz : z.cells.size = 1) (b2 : bytes ≤ 24)
    (v : Value) (n : Nat) (xs : List Value) (hs : a.eval s = v) (hown : w.ownsRow base e 1 v n xs)
    (ad : Addr) (m c : Nat) (news : List Value) (hx : a.eval x = .slice (some ad) m c) (hl : news.length = m) (hnews : ∀ j u, news[j]? = some u → w.cell? (ad.add j) = some u) (hu : ∀ u ∈ news, u.oneCell' = true)
    (hm : 0 < m) (b1 : n + m ≤ 4398046511104) (b4 : base ≤ w.heap.size)
    (h : ∀ g cap w', w'.ownsRow base e 1 (.slice (some ⟨g, 0, none⟩) (n + m) cap) (n + m) (xs ++ news) → Grew w w' v (.slice (some ⟨g, 0, none⟩) (n + m) cap) → K (a.put o.dst (.slice (some ⟨g, 0, none⟩) (n + m) cap)) w') :
    o.wp P a w K Q := by
  obtain ⟨i, hi, hz0, hz1, hz2⟩ := info_parts hinfo
  refine wp_append_lies w s x t hop base e i z 1 bytes h1 hi hz0 hz1 hz2 hz (by decide) v n xs hs hown ad m c news hx (by omega) hnews hu hm (by unfold maxLen; omega) ?_ b4 w.heap.size rfl ?_
  · have : (n + m) * bytes ≤ 4398046511104 * 24 := Nat.mul_le_mul b1 b2
    omega
  · intro g cap w' ho hg hb hlt
    refine h g cap w' ho ⟨hg, fun g' hg' => ?_⟩
    simp [Value.ownBlock] at hg'
    subst hg'
    rcases hb with hb | hb
    · exact .inl hb
    · exact .inr (by omega)

theorem Grew.of_alloc {w w' : World} {o : Obj} {v v' : Value} (h : Grew (w.alloc o) w' v v') : Grew w w' v v' :=
  ⟨grown_trans (World.grownBy_alloc _ _ _) h.grown, fun g hg => (h.blk g hg).imp id (fun hb => Nat.le_trans (by simp) hb)⟩

/-- append of one value to a slice of the call's own: what the walk meets (the value laid in a block of its own first) -/
theorem wp_app1 {P : Program} (w : World) {o : Oper} {a : Act} {K : Act → World → Prop} {Q : Exit → Act → World → Prop}
    (s x : Operand) (t : TypeId) (hop : o.op = Op.call { callee := Callee.builtin Builtin.append, args := #[s, x], argTypes := #[t, t] })
    (base : Nat) (e : TypeId) (z : Value) (bytes : Nat) (h1 : P.underlying t = some (.slice e)) (hinfo : (P.info? e).map (fun i => (i.zero, i.size, i.bytes)) = some (some z, 1, bytes)) (hz : z.cells.size = 1) (b2 : bytes ≤ 24)
    (v : Value) (n : Nat) (xs : List Value) (u : Value) (hs : a.eval s = v) (hown : w.ownsRow base e 1 v n xs)
    (H : Nat) (hH : w.heap.size = H) (hx : a.eval x = .slice (some ⟨H, 0, none⟩) 1 1) (hu : u.oneCell' = true) (b1 : n + 1 ≤ 4398046511104) (b4 : base ≤ H)
    (h : ∀ g cap w', w'.ownsRow base e 1 (.slice (some ⟨g, 0, none⟩) (n + 1) cap) (n + 1) (xs ++ [u]) → Grew w w' v (.slice (some ⟨g, 0, none⟩) (n + 1) cap) → K (a.put o.dst (.slice (some ⟨g, 0, none⟩) (n + 1) cap)) w') :
    o.wp P a (w.alloc (.cells #[u] e)) K Q := by
  subst hH
  refine wp_appL _ s x t hop base e z bytes h1 hinfo hz b2 v n xs hs (hown.alloc _) ⟨w.heap.size, 0, none⟩ 1 1 [u] hx rfl ?_ ?_ (by decide) b1 (Nat.le_trans b4 (by simp)) (fun g cap w' ho hg => h g cap w' ho hg.of_alloc)
  · intro j u' hj
    match j, hj with
    | 0, hj => simp at hj; subst hj; simp [Addr.add]
  · intro u' h'; simp at h'; subst h'; exact hu

theorem wpList_app1 {P : Program} (w : World) {ops : Array Oper} {rest : List Oper} {o : Oper} {a : Act} {Q : Exit → Act → World → Prop}
    (hg : o.guard = none) (s x : Operand) (t : TypeId) (hop : o.op = Op.call { callee := Callee.builtin Builtin.append, args := #[s, x], argTypes := #[t, t] })
    (base : Nat) (e : TypeId) (z : Value) (bytes : Nat) (h1 : P.underlying t = some (.slice e)) (hinfo : (P.info? e).map (fun i => (i.zero, i.size, i.bytes)) = some (some z, 1, bytes)) (hz : z.cells.size = 1) (b2 : bytes ≤ 24)
    (v : Value) (n : Nat) (xs : List Value) (u : Value) (hs : a.eval s = v) (hown : w.ownsRow base e 1 v n xs)
    (H : Nat) (hH : w.heap.size = H) (hx : a.eval x = .slice (some ⟨H, 0, none⟩) 1 1) (hu : u.oneCell' = true) (b1 : n + 1 ≤ 4398046511104) (b4 : base ≤ H)
    (h : ∀ g cap w', w'.ownsRow base e 1 (.slice (some ⟨g, 0, none⟩) (n + 1) cap) (n + 1) (xs ++ [u]) → Grew w w' v (.slice (some ⟨g, 0, none⟩) (n + 1) cap) → wpList P ops Q rest (a.put o.dst (.slice (some ⟨g, 0, none⟩) (n + 1) cap)) w') :
    wpList P ops Q (o :: rest) a (w.alloc (.cells #[u] e)) :=
  wpList_plain hg fun _ hK => wp_app1 w s x t hop base e z bytes h1 hinfo hz b2 v n xs u hs hown H hH hx hu b1 b4 fun g cap w' a b => hK _ _ (h g cap w' a b)

theorem step_app1 {P : Program} (w : World) {ops : Array Oper} {o : Oper} {a : Act} {K : Act → World → Prop} {Q : Exit → Act → World → Prop} {E : Prop}
    (hg : o.guard = none) (s x : Operand) (t : TypeId) (hop : o.op = Op.call { callee := Callee.builtin Builtin.append, args := #[s, x], argTypes := #[t, t] })
    (base : Nat) (e : TypeId) (z : Value) (bytes : Nat) (h1 : P.underlying t = some (.slice e)) (hinfo : (P.info? e).map (fun i => (i.zero, i.size, i.bytes)) = some (some z, 1, bytes)) (hz : z.cells.size = 1) (b2 : bytes ≤ 24)
    (v : Value) (n : Nat) (xs : List Value) (u : Value) (hs : a.eval s = v) (hown : w.ownsRow base e 1 v n xs)
    (H : Nat) (hH : w.heap.size = H) (hx : a.eval x = .slice (some ⟨H, 0, none⟩) 1 1) (hu : u.oneCell' = true) (b1 : n + 1 ≤ 4398046511104) (b4 : base ≤ H)
    (h : ∀ g cap w', w'.ownsRow base e 1 (.slice (some ⟨g, 0, none⟩) (n + 1) cap) (n + 1) (xs ++ [u]) → Grew w w' v (.slice (some ⟨g, 0, none⟩) (n + 1) cap) → K (a.put o.dst (.slice (some ⟨g, 0, none⟩) (n + 1) cap)) w') :
    if Region.wanted o (yielded ops a.tmps) = true then Oper.wp P o a (w.alloc (.cells #[u] e)) K Q else E := by
  have hw : Region.wanted o (yielded ops a.tmps) = true := by simp [Region.wanted, hg]
  rw [if_pos hw]
  exact wp_app1 w s x t hop base e z bytes h1 hinfo hz b2 v n xs u hs hown H hH hx hu b1 b4 h

/-- append of a whole slice that reads as l -/
theorem wpList_appAll {P : Program} (w : World) {ops : Array Oper} {rest : List Oper} {o : Oper} {a : Act} {Q : Exit → Act → World → Prop}
    (hg : o.guard = none) (s x : Operand) (t : TypeId) (hop : o.op = Op.call { callee := Callee.builtin Builtin.append, args := #[s, x], argTypes := #[t, t] })
    (base : Nat) (e : TypeId) (h1 : P.underlying t = some (.slice e)) (hinfo : (P.info? e).map (fun i => (i.zero, i.size, i.bytes)) = some (some (.int .i64 0), 1, 8))
    (v : Value) (xs l : List Int) (hs : a.eval s = v) (hown : OwnI e w base v xs) (v2 : Value) (hx : a.eval x = v2) (hr : Reads w v2 l)
    (b1 : xs.length + l.length ≤ 4398046511104) (b4 : base ≤ w.heap.size)
    (h : ∀ v' w', OwnI e w' base v' (xs ++ l) → w.grownBy w' v.ownBlock → (∀ g, v'.ownBlock = some g → base ≤ g) → wpList P ops Q rest (a.put o.dst v') w') :
    wpList P ops Q (o :: rest) a w := by
  obtain ⟨i, hi, hz0, hz1, hz2⟩ := info_parts hinfo
  obtain ⟨ao, cap, rfl, hr, hcap⟩ := hr
  cases ao with
  | none =>
    have hl0 := hcap rfl
    have hl : l = [] := List.length_eq_zero_iff.1 hl0.1
    subst hl
    refine wpList_append_own_none hg s x t hop base e i 1 h1 hi v xs.length (ivs xs) hs hown (by rw [hx]; simp [hl0.2]) ?_
    exact h v w (by simpa using hown) (World.grownBy.refl _ _) (fun g hg => (hown.lt g hg).1)
  | some ad =>
    refine wpList_append_own w hg s x t hop base e i (.int .i64 0) 1 8 h1 hi hz0 hz1 hz2 rfl (by decide) v xs.length (ivs xs) hs hown ad l.length cap (ivs l) hx (by simp [ivs]) ?_ ?_ (by unfold maxLen; omega) (by omega) b4 ?_
    · intro j u hj
      rcases hr with rfl | ⟨b, off, ha, hc⟩
      · simp [ivs] at hj
      · cases ha
        have hjl : j < l.length := by
          have := (List.getElem?_eq_some_iff.1 hj).1; simpa [ivs] using this
        rw [ivs_get l j hjl] at hj
        cases hj
        have := hc j hjl
        rw [show (⟨b, off, none⟩ : Addr).add j = ⟨b, off + j, none⟩ from by simp [Addr.add]]
        exact this
    · intro u hu
      simp only [ivs, List.mem_map] at hu
      obtain ⟨q, _, rfl⟩ := hu
      rfl
    · intro v' w' ho hg' _
      have ho' : OwnI e w' base v' (xs ++ l) := by unfold OwnI; rw [List.length_append, ivs_append]; exact ho
      exact h v' w' ho' hg' (fun g hg => (ho'.lt g hg).1)

/-- two lists of the call's own, in different rows -/
def Two (T : TypeId) (w : World) (B : Nat) (v1 v2 : Value) (l1 l2 : List Int) : Prop := OwnI T w B v1 l1 ∧ OwnI T w B v2 l2 ∧ Apart v1 v2
theorem Two.left {T : TypeId} {w w' : World} {B : Nat} {v1 v2 v1' : Value} {l1 l2 l1' : List Int} (h : Two T w B v1 v2 l1 l2) (g : Grew w w' v1 v1') (o : OwnI T w' B v1' l1') : Two T w' B v1' v2 l1' l2 :=
  have k := g.keep h.2.1 h.2.2
  ⟨o, k.1, k.2⟩
theorem Two.right {T : TypeId} {w w' : World} {B : Nat} {v1 v2 v2' : Value} {l1 l2 l2' : List Int} (h : Two T w B v1 v2 l1 l2) (g : Grew w w' v2 v2') (o : OwnI T w' B v2' l2') : Two T w' B v1 v2' l1 l2' :=
  have k := g.keep h.1 h.2.2.symm
  ⟨k.1, o, k.2.symm⟩

theorem OwnI.keepMark {T : TypeId} {w w' : World} {B : Nat} {v v2 : Value} {l : List Int} (h : OwnI T w B v l) (hg : w.grownBy w' v2.ownBlock) (ha : Apart v v2) : OwnI T w' B v l := by
  refine World.ownsRow.kept h hg ?_
  cases hv : v.ownBlock with
  | none => exact .inl rfl
  | some k => exact .inr (fun e => ha k hv e.symm)
end Go.Proofs.YtpcnoiigbmiejaaDoor.lib
