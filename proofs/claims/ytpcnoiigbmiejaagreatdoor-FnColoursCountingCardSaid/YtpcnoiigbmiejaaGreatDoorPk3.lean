/- Several texts in one: Str, Sl, Tab. -/
import Derived.Test.YtpcnoiigbmiejaaGreatDoorRows
import Derived.Test.YtpcnoiigbmiejaaGreatDoorLib
import Derived.RegionTactic
import Derived.ChangeAlike
/- The exact laws' helpers over structures: toStructure, szStructure, eqStructure: their contracts. A structure by value, and the block in which a boxed one lies. -/
namespace Go.Proofs.YtpcnoiigbmiejaaGreatDoor.st
set_option linter.unusedVariables false
set_option linter.unusedSimpArgs false
open Go.ChangeShapes Go.WideShapes Go.ChangeAt Go.RowKit
open Go.Proofs.YtpcnoiigbmiejaaGreatDoor.lib

/-- a structure by value -/
abbrev sv (n : Int) (s r : ByteArray) : Value := .agg #[.int .i64 n, .string s, .string r]
/-- block H holds a boxed structure of type T -/
def Box (T : TypeId) (w : World) (H : Nat) (n : Int) (s r : ByteArray) : Prop := w.heap[H]? = some (.cells #[.int .i64 n, .string s, .string r] T (0, 0))
theorem Box.c {T : TypeId} {w : World} {H : Nat} {n : Int} {s r : ByteArray} (h : Box T w H n s r) :
    w.cell? ⟨H, 0, none⟩ = some (.int .i64 n) ∧ w.cell? ⟨H, 1, none⟩ = some (.string s) ∧ w.cell? ⟨H, 2, none⟩ = some (.string r) := by
  unfold Box at h
  refine ⟨?_, ?_, ?_⟩ <;> simp [World.cell?, h]
theorem Box.below {T : TypeId} {w w' : World} {H C : Nat} {n : Int} {s r : ByteArray} (h : Box T w H n s r) (hb : Below C w w') (hC : H < C) : Box T w' H n s r := by
  unfold Box at *
  rw [hb.block H hC]; exact h
theorem Box.new (T : TypeId) (w : World) (H : Nat) (hH : w.heap.size = H) (n : Int) (s r : ByteArray) : Box T (w.alloc (.cells #[.int .i64 n, .string s, .string r] T)) H n s r := by
  subst hH; exact heap_alloc_new w _
theorem Box.lt {T : TypeId} {w : World} {H : Nat} {n : Int} {s r : ByteArray} (h : Box T w H n s r) : H < w.heap.size := (Array.getElem?_eq_some_iff.1 h).1

theorem Box.free {T : TypeId} {w : World} {H : Nat} {n : Int} {s r : ByteArray} (h : Box T w H n s r) (j : Nat) : w.frozen? ⟨H, j, none⟩ = false := frozen_of_row w H j _ T h
theorem Box.set0 {T : TypeId} {w : World} {H : Nat} {n : Int} {s r : ByteArray} (h : Box T w H n s r) (n' : Int) : Box T (w.setCell ⟨H, 0, none⟩ (.int .i64 n')) H n' s r := by
  have := heap_setCell_same w H 0 #[.int .i64 n, .string s, .string r] T (.int .i64 n') h
  unfold Box
  rw [this]; rfl
theorem Box.set1 {T : TypeId} {w : World} {H : Nat} {n : Int} {s r : ByteArray} (h : Box T w H n s r) (s' : ByteArray) : Box T (w.setCell ⟨H, 1, none⟩ (.string s')) H n s' r := by
  have := heap_setCell_same w H 1 #[.int .i64 n, .string s, .string r] T (.string s') h
  unfold Box
  rw [this]; rfl
theorem Box.set2 {T : TypeId} {w : World} {H : Nat} {n : Int} {s r : ByteArray} (h : Box T w H n s r) (r' : ByteArray) : Box T (w.setCell ⟨H, 2, none⟩ (.string r')) H n s r' := by
  have := heap_setCell_same w H 2 #[.int .i64 n, .string s, .string r] T (.string r') h
  unfold Box
  rw [this]; rfl
/-- what a world keeps of an older one: for regions that draw their order -/
theorem keepCell {W W' : World} (hb : Below W.heap.size W W') {a : Addr} {v : Value} (h : W.cell? a = some v) : W'.cell? a = some v := by
  rw [hb.cell (World.block_lt_of_cell? W a h)]; exact h
end Go.Proofs.YtpcnoiigbmiejaaGreatDoor.st

/- The helpers of the exact laws over slices of integers: eqIntS, markIntS, heldIntS: their contracts. -/
namespace Go.Proofs.YtpcnoiigbmiejaaGreatDoor.sl
set_option linter.unusedVariables false
set_option linter.unusedSimpArgs false
open Go.ChangeShapes Go.WideShapes Go.ChangeAt Go.RowKit
open Go.Proofs.YtpcnoiigbmiejaaGreatDoor.lib

theorem infoInt : (Tryz.prog.info? 3).map (fun i => (i.zero, i.size, i.bytes)) = some (some (.int .i64 0), 1, 8) := by kernel_rfl

theorem below_drewN' {w w' : World} (h : ∃ n, w' = w.drewN n) : Below w.heap.size w w' := by
  obtain ⟨n, rfl⟩ := h
  exact below_drewN (Below.refl _ _) n
end Go.Proofs.YtpcnoiigbmiejaaGreatDoor.sl

/- The reference's table of descriptions: how it lies in memory, and what one more description makes of it. No program in sight. -/
namespace Go.Proofs.YtpcnoiigbmiejaaGreatDoor.tab
set_option linter.unusedVariables false
set_option linter.unusedSimpArgs false
open Go.RowKit Go.Proofs.YtpcnoiigbmiejaaGreatDoor.lib

def hashB (s : ByteArray) : Nat := s.data.toList.foldl (fun k c => (k * 31 + c.toNat) % 997) 0
/-- the entries of a row -/
def rowE (L : List ByteArray) (k : Nat) : List (ByteArray × Nat) := L.zipIdx.filter fun e => hashB e.1 == k
def cellsE (l : List (ByteArray × Nat)) : List Value := l.flatMap fun e => [.string e.1, .int .i64 (e.2 : Int)]
theorem cellsE_append (l m : List (ByteArray × Nat)) : cellsE (l ++ m) = cellsE l ++ cellsE m := List.flatMap_append
theorem row_snoc (L : List ByteArray) (s : ByteArray) (k : Nat) : rowE (L ++ [s]) k = rowE L k ++ if hashB s = k then [(s, L.length)] else [] := by
  unfold rowE
  rw [List.zipIdx_append, List.filter_append]
  congr 1
  simp only [List.zipIdx_cons, List.zipIdx_nil, Nat.zero_add]
  by_cases h : hashB s = k
  · rw [if_pos h, List.filter_cons_of_pos (by simpa using h)]; rfl
  · rw [if_neg h, List.filter_cons_of_neg (by simpa using h)]; rfl
theorem row_len (L : List ByteArray) (k : Nat) : (rowE L k).length ≤ L.length := by
  unfold rowE
  exact Nat.le_trans (List.length_filter_le _ _) (by simp)

/-- the table as a value -/
def tv (gl cl gc cc : Nat) : Value := .agg #[.slice (some ⟨gl, 0, none⟩) 997 cl, .slice (some ⟨gc, 0, none⟩) 1 cc]
/-- the table lies in the blocks of D and holds the descriptions L -/
structure Tab (TE TR TI : TypeId) (gl cl gc cc : Nat) (w : World) (D : Nat → Prop) (L : List ByteArray) (vs : List Value) : Prop where
  len : vs.length = 997
  rows : w.ownsRow 0 TR 1 (.slice (some ⟨gl, 0, none⟩) 997 cl) 997 vs
  count : OwnI TI w 0 (.slice (some ⟨gc, 0, none⟩) 1 cc) [(L.length : Int)]
  ne : gl ≠ gc
  dl : D gl
  dc : D gc
  row : ∀ (k : Nat) (u : Value), vs[k]? = some u → w.ownsRow 0 TE 2 u (rowE L k).length (cellsE (rowE L k))
  dr : ∀ (k : Nat) (u : Value) (g : Nat), vs[k]? = some u → u.ownBlock = some g → D g
  apart : ∀ (j k : Nat) (u u' : Value) (g : Nat), j ≠ k → vs[j]? = some u → vs[k]? = some u' → u.ownBlock = some g → u'.ownBlock ≠ some g
  off : ∀ (k : Nat) (u : Value) (g : Nat), vs[k]? = some u → u.ownBlock = some g → g ≠ gl ∧ g ≠ gc
  nodup : L.Nodup
  lt : ∀ k, D k → k < w.heap.size
/-- what lies outside D is as it was -/
structure Out (D : Nat → Prop) (w w' : World) : Prop where
  os : w'.os = w.os
  tape : w'.tape = w.tape
  output : w'.output = w.output
  size : w.heap.size ≤ w'.heap.size
  block : ∀ k, k < w.heap.size → ¬ D k → w'.heap[k]? = w.heap[k]?
theorem Out.refl (D : Nat → Prop) (w : World) : Out D w w := ⟨rfl, rfl, rfl, Nat.le_refl _, fun _ _ _ => rfl⟩
theorem Out.trans {D D' : Nat → Prop} {w w1 w2 : World} (p : Out D w w1) (q : Out D' w1 w2) (hD : ∀ k, D' k → D k ∨ w.heap.size ≤ k) : Out D w w2 :=
  ⟨q.os.trans p.os, q.tape.trans p.tape, q.output.trans p.output, Nat.le_trans p.size q.size, fun k hk hn => (q.block k (Nat.lt_of_lt_of_le hk p.size) fun h => by
    rcases hD k h with h | h
    · exact hn h
    · omega).trans (p.block k hk hn)⟩
theorem Out.of_below {D : Nat → Prop} {w w' : World} {C : Nat} (h : Below C w w') (hC : w.heap.size ≤ C) : Out D w w' :=
  ⟨h.os, h.tape, h.output, h.size, fun k hk _ => h.block k (by omega)⟩
theorem Out.of_grown {D : Nat → Prop} {w w' : World} {row : Option Nat} (h : w.grownBy w' row) (hr : ∀ g, row = some g → D g) : Out D w w' :=
  ⟨h.os, h.tape, h.output, h.size, fun k hk hn => h.block k hk fun e => hn (hr k e.symm)⟩
theorem Out.below {D : Nat → Prop} {w w' : World} {B : Nat} (h : Out D w w') (hD : ∀ k, D k → B ≤ k) (hB : B ≤ w.heap.size) : Below B w w' :=
  ⟨h.os, h.tape, h.output, h.size, fun k hk => h.block k (by omega) fun hd => by have := hD k hd; omega⟩
theorem Out.cell {D : Nat → Prop} {w w' : World} (h : Out D w w') {a : Addr} {v : Value} (hc : w.cell? a = some v) (hn : ¬ D a.block) : w'.cell? a = some v :=
  (World.cell?_of_block (h.block a.block (World.block_lt_of_cell? w a hc) hn)).trans hc
theorem owns_same {w w' : World} {B : Nat} {T : TypeId} {u : Nat} {v : Value} {n : Nat} {xs : List Value} (h : w.ownsRow B T u v n xs) (hb : ∀ g, v.ownBlock = some g → w'.heap[g]? = w.heap[g]?) : w'.ownsRow B T u v n xs := by
  refine ⟨h.1, ?_⟩
  rcases h.2 with hn | ⟨g, cap, cur, rfl, hB, hg, rest⟩
  · exact .inl hn
  · exact .inr ⟨g, cap, cur, rfl, hB, by rw [hb g rfl]; exact hg, rest⟩
theorem Out.owns {D : Nat → Prop} {w w' : World} {B : Nat} {T : TypeId} {u : Nat} {v : Value} {n : Nat} {xs : List Value} (h : Out D w w') (ho : w.ownsRow B T u v n xs) (hn : ∀ g, v.ownBlock = some g → ¬ D g) : w'.ownsRow B T u v n xs :=
  owns_same ho fun g hg => h.block g (ho.lt g hg).2 (hn g hg)
theorem Out.reads {D : Nat → Prop} {w w' : World} {v : Value} {l : List Int} (h : Out D w w') (hr : Reads w v l) (hn : ∀ g, v.ownBlock = some g → ¬ D g) : Reads w' v l := by
  obtain ⟨ao, cap, rfl, hr, hc⟩ := hr
  refine ⟨ao, cap, rfl, ?_, hc⟩
  rcases hr with hr | ⟨b, off, rfl, hr⟩
  · exact .inl hr
  · exact .inr ⟨b, off, rfl, fun i hi => h.cell (hr i hi) (hn b rfl)⟩
theorem Tab.kept {TE TR TI : TypeId} {gl cl gc cc : Nat} {w w' : World} {D : Nat → Prop} {L : List ByteArray} {vs : List Value} (h : Tab TE TR TI gl cl gc cc w D L vs) (hb : ∀ k, D k → w'.heap[k]? = w.heap[k]?) (hs : w.heap.size ≤ w'.heap.size) : Tab TE TR TI gl cl gc cc w' D L vs where
  len := h.len
  rows := owns_same h.rows fun g hg => hb g (by cases hg; exact h.dl)
  count := owns_same h.count fun g hg => hb g (by cases hg; exact h.dc)
  ne := h.ne
  dl := h.dl
  dc := h.dc
  row := fun k u hu => owns_same (h.row k u hu) fun g hg => hb g (h.dr k u g hu hg)
  dr := h.dr
  apart := h.apart
  off := h.off
  nodup := h.nodup
  lt := fun k hk => Nat.lt_of_lt_of_le (h.lt k hk) hs
theorem Tab.below {TE TR TI : TypeId} {gl cl gc cc : Nat} {w w' : World} {D : Nat → Prop} {L : List ByteArray} {vs : List Value} {C : Nat} (h : Tab TE TR TI gl cl gc cc w D L vs) (hb : Below C w w') (hC : w.heap.size ≤ C) : Tab TE TR TI gl cl gc cc w' D L vs :=
  h.kept (fun k hk => hb.block k (by have := h.lt k hk; omega)) hb.size
/-- the row of a description grew by it, and the count -/
theorem Tab.more {TE TR TI : TypeId} {gl cl gc cc : Nat} {w w' : World} {D : Nat → Prop} {L : List ByteArray} {vs : List Value} (h : Tab TE TR TI gl cl gc cc w D L vs) {s : ByteArray} (hs : s ∉ L) {u v : Value} (hu : vs[hashB s]? = some u)
    (hr : w'.ownsRow 0 TR 1 (.slice (some ⟨gl, 0, none⟩) 997 cl) 997 (vs.set (hashB s) v)) (hc : OwnI TI w' 0 (.slice (some ⟨gc, 0, none⟩) 1 cc) [((L.length + 1 : Nat) : Int)])
    (hv : w'.ownsRow 0 TE 2 v ((rowE L (hashB s)).length + 1) (cellsE (rowE L (hashB s)) ++ [.string s, .int .i64 (L.length : Int)]))
    (hk : ∀ k, k < w.heap.size → k ≠ gl → k ≠ gc → u.ownBlock ≠ some k → w'.heap[k]? = w.heap[k]?) (hsz : w.heap.size ≤ w'.heap.size) (hg : ∀ g, v.ownBlock = some g → u.ownBlock = some g ∨ w.heap.size ≤ g) :
    Tab TE TR TI gl cl gc cc w' (fun k => D k ∨ v.ownBlock = some k) (L ++ [s]) (vs.set (hashB s) v) where
  len := by rw [List.length_set]; exact h.len
  rows := hr
  count := by rw [List.length_append]; exact hc
  ne := h.ne
  dl := .inl h.dl
  dc := .inl h.dc
  row := fun k x hx => by
    rw [List.getElem?_set] at hx
    rw [row_snoc]
    split at hx
    · rename_i e
      split at hx
      · cases hx
        rw [if_pos e, ← e, List.length_append, cellsE_append]
        exact hv
      · cases hx
    · rename_i e
      rw [if_neg e, List.append_nil]
      refine owns_same (h.row k x hx) fun g hg => hk g (h.lt g (h.dr k x g hx hg)) (h.off k x g hx hg).1 (h.off k x g hx hg).2 (h.apart k (hashB s) x u g (fun e' => e e'.symm) hx hu hg)
  dr := fun k x g hx hg' => by
    rw [List.getElem?_set] at hx
    split at hx
    · split at hx
      · cases hx; exact .inr hg'
      · cases hx
    · exact .inl (h.dr k x g hx hg')
  apart := fun j k x y g hjk hx hy hg1 hg2 => by
    rw [List.getElem?_set] at hx hy
    have old : ∀ (i : Nat) (z : Value), i ≠ hashB s → vs[i]? = some z → z.ownBlock = some g → v.ownBlock = some g → False := fun i z hi hz h1 h2 => by
      rcases hg g h2 with e | e
      · exact h.apart i (hashB s) z u g hi hz hu h1 e
      · have := h.lt g (h.dr i z g hz h1); omega
    split at hx
    · rename_i e1
      split at hx
      · cases hx
        rw [if_neg (by omega)] at hy
        exact old k y (by omega) hy hg2 hg1
      · cases hx
    · rename_i e1
      split at hy
      · split at hy
        · cases hy
          exact old j x (by omega) hx hg1 hg2
        · cases hy
      · exact h.apart j k x y g hjk hx hy hg1 hg2
  off := fun k x g hx hg1 => by
    rw [List.getElem?_set] at hx
    split at hx
    · split at hx
      · cases hx
        rcases hg g hg1 with e | e
        · exact h.off _ u g hu e
        · have h1 := h.lt _ h.dl; have h2 := h.lt _ h.dc; omega
      · cases hx
    · exact h.off k x g hx hg1
  nodup := by
    rw [List.nodup_append]
    refine ⟨h.nodup, by simp, fun a ha b hb e => ?_⟩
    rw [List.mem_singleton] at hb
    subst hb; subst e; exact hs ha
  lt := fun k hk' => by
    rcases hk' with hk' | hk'
    · exact Nat.lt_of_lt_of_le (h.lt k hk') hsz
    · exact (hv.lt k hk').2
end Go.Proofs.YtpcnoiigbmiejaaGreatDoor.tab
