/- The reference's table of descriptions: how it lies in memory, and what one more description makes of it. No program in sight. -/
import Derived.Test.YtpcnoiigbmiejaaDoorLib
namespace Go.Proofs.YtpcnoiigbmiejaaDoor.tab
set_option linter.unusedVariables false
set_option linter.unusedSimpArgs false
open Go.RowKit Go.Proofs.YtpcnoiigbmiejaaDoor.lib

def hashB (s : ByteArray) : Nat := s.data.toList.foldl (fun k c => (k * 31 + c.toNat) % 997) 0
theorem hash_lt (s : ByteArray) : hashB s < 997 := by
  have key : ∀ (l : List UInt8) (k : Nat), k < 997 → l.foldl (fun k c => (k * 31 + c.toNat) % 997) k < 997 := fun l => by
    induction l with
    | nil => intro k h; exact h
    | cons a l ih => intro k h; exact ih _ (Nat.mod_lt _ (by decide))
  exact key _ 0 (by decide)
/-- the entries of a row -/
def rowE (L : List ByteArray) (k : Nat) : List (ByteArray × Nat) := L.zipIdx.filter fun e => hashB e.1 == k
def cellsE (l : List (ByteArray × Nat)) : List Value := l.flatMap fun e => [.string e.1, .int .i64 (e.2 : Int)]
theorem cellsE_len (l : List (ByteArray × Nat)) : (cellsE l).length = l.length * 2 := by
  unfold cellsE
  induction l with
  | nil => rfl
  | cons a l ih => rw [List.flatMap_cons, List.length_append, ih]; simp; omega
theorem cellsE_append (l m : List (ByteArray × Nat)) : cellsE (l ++ m) = cellsE l ++ cellsE m := List.flatMap_append
theorem cellsE_get : ∀ (l : List (ByteArray × Nat)) (i : Nat) (h : i < l.length), (cellsE l)[i * 2]? = some (.string l[i].1) ∧ (cellsE l)[i * 2 + 1]? = some (.int .i64 (l[i].2 : Int))
  | a :: l, 0, h => ⟨rfl, rfl⟩
  | a :: l, i + 1, h => by
    have ih := cellsE_get l i (by simpa using h)
    have e : cellsE (a :: l) = [.string a.1, .int .i64 (a.2 : Int)] ++ cellsE l := rfl
    rw [e, show (i + 1) * 2 = i * 2 + 2 from by omega, show i * 2 + 2 + 1 = (i * 2 + 1) + 2 from by omega]
    rw [List.getElem?_append_right (by simp), List.getElem?_append_right (by simp)]
    simpa using ih
theorem row_snoc (L : List ByteArray) (s : ByteArray) (k : Nat) : rowE (L ++ [s]) k = rowE L k ++ if hashB s = k then [(s, L.length)] else [] := by
  unfold rowE
  rw [List.zipIdx_append, List.filter_append]
  congr 1
  simp only [List.zipIdx_cons, List.zipIdx_nil, Nat.zero_add]
  by_cases h : hashB s = k
  · rw [if_pos h, List.filter_cons_of_pos (by simpa using h)]; rfl
  · rw [if_neg h, List.filter_cons_of_neg (by simpa using h)]; rfl
theorem row_mem {L : List ByteArray} {k : Nat} {e : ByteArray × Nat} (h : e ∈ rowE L k) : L[e.2]? = some e.1 := by
  unfold rowE at h
  have h := (List.mem_filter.1 h).1
  obtain ⟨a, i⟩ := e
  exact List.mk_mem_zipIdx_iff_getElem?.1 h
theorem row_has {L : List ByteArray} {s : ByteArray} (h : s ∈ L) : ∃ e ∈ rowE L (hashB s), e.1 = s := by
  obtain ⟨i, hi, rfl⟩ := List.mem_iff_getElem.1 h
  exact ⟨(L[i], i), List.mem_filter.2 ⟨List.mk_mem_zipIdx_iff_getElem?.2 (by simp [hi]), by simp⟩, rfl⟩
theorem row_len (L : List ByteArray) (k : Nat) : (rowE L k).length ≤ L.length := by
  unfold rowE
  exact Nat.le_trans (List.length_filter_le _ _) (by simp)

/-- the table as a value -/
def tv (gl cl gc cc : Nat) : Value := .agg #[.slice (some ⟨gl, 0, none⟩) 997 cl, .slice (some ⟨gc, 0, none⟩) 1 cc]
/-- the table lies in the blocks of D and holds the descriptions L -/
structure Tab (TE TR TI : TypeId) (gl cl gc cc : Nat) (w : World) (D : Nat → Prop) (L : List ByteArray) (vs : List Value) : Prop where
  len : vs.length = 997
  rows : w.ownsRow 0 TR 1 (.slice (some ⟨gl, 0, none⟩) 997 cl) 997 vs
  count : OwnI TI w 0 (.slice (some ⟨gc, 0, none⟩) 1 cc) [(L.length : Int)]
  ne : gl ≠ gc
  dl : D gl
  dc : D gc
  row : ∀ (k : Nat) (u : Value), vs[k]? = some u → w.ownsRow 0 TE 2 u (rowE L k).length (cellsE (rowE L k))
  dr : ∀ (k : Nat) (u : Value) (g : Nat), vs[k]? = some u → u.ownBlock = some g → D g
  apart : ∀ (j k : Nat) (u u' : Value) (g : Nat), j ≠ k → vs[j]? = some u → vs[k]? = some u' → u.ownBlock = some g → u'.ownBlock ≠ some g
  off : ∀ (k : Nat) (u : Value) (g : Nat), vs[k]? = some u → u.ownBlock = some g → g ≠ gl ∧ g ≠ gc
  nodup : L.Nodup
  lt : ∀ k, D k → k < w.heap.size
/-- what lies outside D is as it was -/
structure Out (D : Nat → Prop) (w w' : World) : Prop where
  os : w'.os = w.os
  tape : w'.tape = w.tape
  output : w'.output = w.output
  size : w.heap.size ≤ w'.heap.size
  block : ∀ k, k < w.heap.size → ¬ D k → w'.heap[k]? = w.heap[k]?
theorem Out.refl (D : Nat → Prop) (w : World) : Out D w w := ⟨rfl, rfl, rfl, Nat.le_refl _, fun _ _ _ => rfl⟩
theorem Out.trans {D D' : Nat → Prop} {w w1 w2 : World} (p : Out D w w1) (q : Out D' w1 w2) (hD : ∀ k, D' k → D k ∨ w.heap.size ≤ k) : Out D w w2 :=
  ⟨q.os.trans p.os, q.tape.trans p.tape, q.output.trans p.output, Nat.le_trans p.size q.size, fun k hk hn => (q.block k (Nat.lt_of_lt_of_le hk p.size) fun h => by
    rcases hD k h with h | h
    · exact hn h
    · omega).trans (p.block k hk hn)⟩
theorem Out.of_below {D : Nat → Prop} {w w' : World} {C : Nat} (h : Below C w w') (hC : w.heap.size ≤ C) : Out D w w' :=
  ⟨h.os, h.tape, h.output, h.size, fun k hk _ => h.block k (by omega)⟩
theorem Out.of_grown {D : Nat → Prop} {w w' : World} {row : Option Nat} (h : w.grownBy w' row) (hr : ∀ g, row = some g → D g) : Out D w w' :=
  ⟨h.os, h.tape, h.output, h.size, fun k hk hn => h.block k hk fun e => hn (hr k e.symm)⟩
theorem Out.below {D : Nat → Prop} {w w' : World} {B : Nat} (h : Out D w w') (hD : ∀ k, D k → B ≤ k) (hB : B ≤ w.heap.size) : Below B w w' :=
  ⟨h.os, h.tape, h.output, h.size, fun k hk => h.block k (by omega) fun hd => by have := hD k hd; omega⟩
theorem Out.cell {D : Nat → Prop} {w w' : World} (h : Out D w w') {a : Addr} {v : Value} (hc : w.cell? a = some v) (hn : ¬ D a.block) : w'.cell? a = some v :=
  (World.cell?_of_block (h.block a.block (World.block_lt_of_cell? w a hc) hn)).trans hc
theorem owns_same {w w' : World} {B : Nat} {T : TypeId} {u : Nat} {v : Value} {n : Nat} {xs : List Value} (h : w.ownsRow B T u v n xs) (hb : ∀ g, v.ownBlock = some g → w'.heap[g]? = w.heap[g]?) : w'.ownsRow B T u v n xs := by
  refine ⟨h.1, ?_⟩
  rcases h.2 with hn | ⟨g, cap, cur, rfl, hB, hg, rest⟩
  · exact .inl hn
  · exact .inr ⟨g, cap, cur, rfl, hB, by rw [hb g rfl]; exact hg, rest⟩
theorem Out.owns {D : Nat → Prop} {w w' : World} {B : Nat} {T : TypeId} {u : Nat} {v : Value} {n : Nat} {xs : List Value} (h : Out D w w') (ho : w.ownsRow B T u v n xs) (hn : ∀ g, v.ownBlock = some g → ¬ D g) : w'.ownsRow B T u v n xs :=
  owns_same ho fun g hg => h.block g (ho.lt g hg).2 (hn g hg)
theorem Out.reads {D : Nat → Prop} {w w' : World} {v : Value} {l : List Int} (h : Out D w w') (hr : Reads w v l) (hn : ∀ g, v.ownBlock = some g → ¬ D g) : Reads w' v l := by
  obtain ⟨ao, cap, rfl, hr, hc⟩ := hr
  refine ⟨ao, cap, rfl, ?_, hc⟩
  rcases hr with hr | ⟨b, off, rfl, hr⟩
  · exact .inl hr
  · exact .inr ⟨b, off, rfl, fun i hi => h.cell (hr i hi) (hn b rfl)⟩
theorem Tab.kept {TE TR TI : TypeId} {gl cl gc cc : Nat} {w w' : World} {D : Nat → Prop} {L : List ByteArray} {vs : List Value} (h : Tab TE TR TI gl cl gc cc w D L vs) (hb : ∀ k, D k → w'.heap[k]? = w.heap[k]?) (hs : w.heap.size ≤ w'.heap.size) : Tab TE TR TI gl cl gc cc w' D L vs where
  len := h.len
  rows := owns_same h.rows fun g hg => hb g (by cases hg; exact h.dl)
  count := owns_same h.count fun g hg => hb g (by cases hg; exact h.dc)
  ne := h.ne
  dl := h.dl
  dc := h.dc
  row := fun k u hu => owns_same (h.row k u hu) fun g hg => hb g (h.dr k u g hu hg)
  dr := h.dr
  apart := h.apart
  off := h.off
  nodup := h.nodup
  lt := fun k hk => Nat.lt_of_lt_of_le (h.lt k hk) hs
theorem Tab.below {TE TR TI : TypeId} {gl cl gc cc : Nat} {w w' : World} {D : Nat → Prop} {L : List ByteArray} {vs : List Value} {C : Nat} (h : Tab TE TR TI gl cl gc cc w D L vs) (hb : Below C w w') (hC : w.heap.size ≤ C) : Tab TE TR TI gl cl gc cc w' D L vs :=
  h.kept (fun k hk => hb.block k (by have := h.lt k hk; omega)) hb.size
/-- the row of a description grew by it, and the count -/
theorem Tab.more {TE TR TI : TypeId} {gl cl gc cc : Nat} {w w' : World} {D : Nat → Prop} {L : List ByteArray} {vs : List Value} (h : Tab TE TR TI gl cl gc cc w D L vs) {s : ByteArray} (hs : s ∉ L) {u v : Value} (hu : vs[hashB s]? = some u)
    (hr : w'.ownsRow 0 TR 1 (.slice (some ⟨gl, 0, none⟩) 997 cl) 997 (vs.set (hashB s) v)) (hc : OwnI TI w' 0 (.slice (some ⟨gc, 0, none⟩) 1 cc) [((L.length + 1 : Nat) : Int)])
    (hv : w'.ownsRow 0 TE 2 v ((rowE L (hashB s)).length + 1) (cellsE (rowE L (hashB s)) ++ [.string s, .int .i64 (L.length : Int)]))
    (hk : ∀ k, k < w.heap.size → k ≠ gl → k ≠ gc → u.ownBlock ≠ some k → w'.heap[k]? = w.heap[k]?) (hsz : w.heap.size ≤ w'.heap.size) (hg : ∀ g, v.ownBlock = some g → u.ownBlock = some g ∨ w.heap.size ≤ g) :
    Tab TE TR TI gl cl gc cc w' (fun k => D k ∨ v.ownBlock = some k) (L ++ [s]) (vs.set (hashB s) v) where
  len := by rw [List.length_set]; exact h.len
  rows := hr
  count := by rw [List.length_append]; exact hc
  ne := h.ne
  dl := .inl h.dl
  dc := .inl h.dc
  row := fun k x hx => by
    rw [List.getElem?_set] at hx
    rw [row_snoc]
    split at hx
    · rename_i e
      split at hx
      · cases hx
        rw [if_pos e, ← e, List.length_append, cellsE_append]
        exact hv
      · cases hx
    · rename_i e
      rw [if_neg e, List.append_nil]
      refine owns_same (h.row k x hx) fun g hg => hk g (h.lt g (h.dr k x g hx hg)) (h.off k x g hx hg).1 (h.off k x g hx hg).2 (h.apart k (hashB s) x u g (fun e' => e e'.symm) hx hu hg)
  dr := fun k x g hx hg' => by
    rw [List.getElem?_set] at hx
    split at hx
    · split at hx
      · cases hx; exact .inr hg'
      · cases hx
    · exact .inl (h.dr k x g hx hg')
  apart := fun j k x y g hjk hx hy hg1 hg2 => by
    rw [List.getElem?_set] at hx hy
    have old : ∀ (i : Nat) (z : Value), i ≠ hashB s → vs[i]? = some z → z.ownBlock = some g → v.ownBlock = some g → False := fun i z hi hz h1 h2 => by
      rcases hg g h2 with e | e
      · exact h.apart i (hashB s) z u g hi hz hu h1 e
      · have := h.lt g (h.dr i z g hz h1); omega
    split at hx
    · rename_i e1
      split at hx
      · cases hx
        rw [if_neg (by omega)] at hy
        exact old k y (by omega) hy hg2 hg1
      · cases hx
    · rename_i e1
      split at hy
      · split at hy
        · cases hy
          exact old j x (by omega) hx hg1 hg2
        · cases hy
      · exact h.apart j k x y g hjk hx hy hg1 hg2
  off := fun k x g hx hg1 => by
    rw [List.getElem?_set] at hx
    split at hx
    · split at hx
      · cases hx
        rcases hg g hg1 with e | e
        · exact h.off _ u g hu e
        · have h1 := h.lt _ h.dl; have h2 := h.lt _ h.dc; omega
      · cases hx
    · exact h.off k x g hx hg1
  nodup := by
    rw [List.nodup_append]
    refine ⟨h.nodup, by simp, fun a ha b hb e => ?_⟩
    rw [List.mem_singleton] at hb
    subst hb; subst e; exact hs ha
  lt := fun k hk' => by
    rcases hk' with hk' | hk'
    · exact Nat.lt_of_lt_of_le (h.lt k hk') hsz
    · exact (hv.lt k hk').2
/-- an append of a pair of cells to a row of its own -/
theorem wpList_app2 {P : Program} (w : World) {ops : Array Oper} {rest : List Oper} {o : Oper} {a : Act} {Q : Exit → Act → World → Prop}
    (hgd : o.guard = none) (s x : Operand) (t : TypeId) (hop : o.op = Op.call { callee := Callee.builtin Builtin.append, args := #[s, x], argTypes := #[t, t] })
    (base : Nat) (e : TypeId) (z : Value) (bytes : Nat) (h1 : P.underlying t = some (.slice e)) (hinfo : (P.info? e).map (fun i => (i.zero, i.size, i.bytes)) = some (some z, 2, bytes)) (hz : z.cells.size = 2) (b2 : bytes ≤ 24)
    (v : Value) (n : Nat) (xs : List Value) (u1 u2 : Value) (hs : a.eval s = v) (hown : w.ownsRow base e 2 v n xs)
    (H : Nat) (hx : a.eval x = .slice (some ⟨H, 0, none⟩) 1 1) (hc1 : w.cell? ⟨H, 0, none⟩ = some u1) (hc2 : w.cell? ⟨H, 1, none⟩ = some u2) (hu1 : u1.oneCell' = true) (hu2 : u2.oneCell' = true) (b1 : n + 1 ≤ 1000000) (b4 : base ≤ w.heap.size)
    (h : ∀ g cap w', w'.ownsRow base e 2 (.slice (some ⟨g, 0, none⟩) (n + 1) cap) (n + 1) (xs ++ [u1, u2]) → w.grownBy w' v.ownBlock → (v.ownBlock = some g ∨ g = w.heap.size) → wpList P ops Q rest (a.put o.dst (.slice (some ⟨g, 0, none⟩) (n + 1) cap)) w') :
    wpList P ops Q (o :: rest) a w := by
  refine wpList_plain hgd fun K hK => ?_
  obtain ⟨i, hi, hz0, hz1, hz2⟩ := info_parts hinfo
  refine wp_append_lies w s x t hop base e i z 2 bytes h1 hi hz0 hz1 hz2 hz (by decide) v n xs hs hown ⟨H, 0, none⟩ 1 1 [u1, u2] hx rfl ?_ ?_ (by decide) (by unfold maxLen; omega) ?_ b4 w.heap.size rfl ?_
  · intro j u' hj
    match j, hj with
    | 0, hj => simp at hj; subst hj; simpa [Addr.add] using hc1
    | 1, hj => simp at hj; subst hj; simpa [Addr.add] using hc2
  · intro u' h'
    rcases List.mem_cons.1 h' with rfl | h'
    · exact hu1
    · rw [List.mem_singleton.1 h']; exact hu2
  · have : (n + 1) * bytes ≤ 1000000 * 24 := Nat.mul_le_mul b1 b2
    omega
  · intro g cap w' ho hg hb _
    exact hK _ _ (h g cap w' ho hg hb)
end Go.Proofs.YtpcnoiigbmiejaaDoor.tab
