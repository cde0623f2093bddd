/- OrbitOf of the program: all that it names comes from orders that fit. -/
import Derived.Test.YtefneihlgclkbaaDoorEach2
import Derived.Test.YtefneihlgclkbaaDoorPkO
import Derived.Test.YtefneihlgclkbaaDoorPart
import Derived.Test.YtefneihlgclkbaaDoorFlow
import Derived.Test.YtefneihlgclkbaaDoorSl
import Derived.WalkSpells
namespace Go.Proofs.YtefneihlgclkbaaDoor.orbit
set_option linter.unusedVariables false
set_option linter.unusedSimpArgs false
open Go.ChangeShapes Go.WideShapes Go.ChangeAt Go.RowKit
open Go.Proofs.YtefneihlgclkbaaDoor.lib Go.Proofs.YtefneihlgclkbaaDoor.st Go.Proofs.YtefneihlgclkbaaDoor.base Go.Proofs.YtefneihlgclkbaaDoor.make Go.Proofs.YtefneihlgclkbaaDoor.fits Go.Proofs.YtefneihlgclkbaaDoor.ord Go.Proofs.YtefneihlgclkbaaDoor.each Go.Proofs.YtefneihlgclkbaaDoor.flow Go.Proofs.YtefneihlgclkbaaDoor.part

/-- a row of n bits: those of T are set -/
def bits (n : Nat) (T : List Nat) : List Value := (List.range n).map fun i => .bool (decide (i ∈ T))
def OwnB (w : World) (B : Nat) (v : Value) (n : Nat) (T : List Nat) : Prop := w.ownsRow B 4 1 v n (bits n T)
theorem bits_get {n i : Nat} {T : List Nat} (h : i < n) : (bits n T)[i]? = some (.bool (decide (i ∈ T))) := by simp [bits, h]
theorem bits_set {n y : Nat} {T : List Nat} (h : y < n) : (bits n T).set y (.bool true) = bits n (y :: T) := by
  refine List.ext_getElem? fun i => ?_
  rw [List.getElem?_set]
  by_cases e : y = i
  · subst e
    rw [if_pos rfl, if_pos (by simpa [bits] using h), bits_get h]
    simp
  · rw [if_neg e]
    by_cases hi : i < n
    · rw [bits_get hi, bits_get hi]
      have : decide (i ∈ y :: T) = decide (i ∈ T) := decide_eq_decide.2 (by simp [Ne.symm e])
      rw [this]
    · rw [List.getElem?_eq_none (by simpa [bits] using hi), List.getElem?_eq_none (by simpa [bits] using hi)]
theorem OwnB.ge {w : World} {B g n cap : Nat} {T : List Nat} (h : OwnB w B (.slice (some ⟨g, 0, none⟩) n cap) n T) : B ≤ g ∧ g < w.heap.size := World.ownsRow.lt h g rfl
theorem OwnB.cell {w : World} {B g n cap i : Nat} {T : List Nat} (h : OwnB w B (.slice (some ⟨g, 0, none⟩) n cap) n T) (hi : i < n) : w.cell? ⟨g, i, none⟩ = some (.bool (decide (i ∈ T))) := by
  have := World.ownsRow.cellAt h i (by omega)
  rw [this]
  have e := bits_get (T := T) hi
  simp [e]
theorem OwnB.below {w w' : World} {B C n : Nat} {v : Value} {T : List Nat} (h : OwnB w B v n T) (hb : Below C w w') (hC : w.heap.size ≤ C) : OwnB w' B v n T := by
  unfold OwnB at *
  obtain ⟨h1, h2⟩ := h
  refine ⟨h1, ?_⟩
  rcases h2 with h2 | ⟨g, cap, cur, hv, hg, hh, r⟩
  · exact .inl h2
  · exact .inr ⟨g, cap, cur, hv, hg, by rw [hb.block g (Nat.lt_of_lt_of_le (Array.getElem?_eq_some_iff.1 hh).1 hC)]; exact hh, r⟩
/-- what is told: the place of the element -/
def stO (x : Nat) (T : List Nat) (o : List Nat) : List Nat × Bool := (o.getD x 0 :: T, true)
theorem run_stO (x : Nat) : ∀ (L : List (List Nat)) (T : List Nat), ∃ T', run (stO x) L T = (T', true) ∧ ∀ y, y ∈ T' → y ∈ T ∨ ∃ o, o ∈ L ∧ o.getD x 0 = y
  | [], T => ⟨T, rfl, fun y h => .inl h⟩
  | o :: L, T => by
    obtain ⟨T', h1, h2⟩ := run_stO x L (o.getD x 0 :: T)
    refine ⟨T', by simp only [run, stO] at h1 ⊢; simpa using h1, fun y hy => ?_⟩
    rcases h2 y hy with h | ⟨p, hp, e⟩
    · rcases List.mem_cons.1 h with e | h
      · exact .inr ⟨o, List.mem_cons_self .., e.symm⟩
      · exact .inl h
    · exact .inr ⟨p, List.mem_cons_of_mem _ hp, e⟩
/-- the cells in which it is kept -/
def KeptO (ci cx B g n cap x : Nat) (T : List Nat) (W : World) : Prop :=
  W.cell? ⟨ci, 0, none⟩ = some (.slice (some ⟨g, 0, none⟩) n cap) ∧ W.cell? ⟨cx, 0, none⟩ = some (.int .i64 x) ∧ OwnB W B (.slice (some ⟨g, 0, none⟩) n cap) n T
set_option maxHeartbeats 1600000 in
theorem tell_any (ci cx B g n cap x : Nat) (T : List Nat) (o : List Nat) (v : Value) (W : World) (hk : KeptO ci cx B g n cap x T W) (hr : Reads W v (ints o)) (hx : x < o.length) (hy : o.getD x 0 < n) :
    Calls Tryd.prog 131 #[v, .pointer (some ⟨ci, 0, none⟩), .pointer (some ⟨cx, 0, none⟩)] W fun e W' => e = .returned (.bool true) ∧ W' = (W.setCell ⟨g, o.getD x 0, none⟩ (.bool true)).drew := by
  obtain ⟨ao, cp, rfl⟩ := hr.len
  rw [ints_len] at hr ⊢
  obtain ⟨m, hm⟩ : ∃ m, m = o.length := ⟨_, rfl⟩
  rw [← hm] at hr hx ⊢
  obtain ⟨b, off, rfl, hb, hc⟩ := lies hr hm (by omega)
  have c0 := hc x hx
  obtain ⟨k1, k2, k3⟩ := hk
  obtain ⟨y, hyy⟩ : ∃ y, o.getD x 0 = y := ⟨_, rfl⟩
  rw [hyy] at c0 hy ⊢
  have k4 := k3.cell hy
  have hfz : W.frozen? ⟨g, y, none⟩ = false := World.ownsRow.frozenAt k3 y
  clear hr hm hc hyy k3
  have q0 : ∀ X : Wd (fun Z => Z = W.drew), X.w.cell? ⟨ci, 0, none⟩ = some (.slice (some ⟨g, 0, none⟩) n cap) := fun X => by rw [X.ok]; exact k1
  have q1 : ∀ X : Wd (fun Z => Z = W.drew), X.w.cell? ⟨cx, 0, none⟩ = some (.int .i64 x) := fun X => by rw [X.ok]; exact k2
  have q2 : ∀ X : Wd (fun Z => Z = W.drew), X.w.cell? ⟨b, off + x, none⟩ = some (.int .i64 y) := fun X => by rw [X.ok]; exact c0
  have q3 : ∀ X : Wd (fun Z => Z = W.drew), X.w.cell? ⟨g, y, none⟩ = some (.bool (decide (y ∈ T))) := fun X => by rw [X.ok]; exact k4
  have hne : Nonempty (Wd (fun Z => Z = W.drew)) := ⟨⟨W.drew, rfl⟩⟩
  go_enter Tryd.func131, Tryd.ntmps131
  go_wp2_with fail
  refine flow_last (S := (fun Z => Z = W.drew)) (by kernel_rfl) (by kernel_rfl) (by kernel_rfl) (by kernel_rfl) (by kernel_rfl) rfl ?_
  simp only [List.dropLast_cons_cons, List.dropLast_singleton, List.getLast?_cons_cons, List.getLast?_singleton, Option.toList_some]
  repeat (go_big_quiet_step (fail))
  refine wpQuiet_nil ?_
  rintro _ ⟨X, rfl⟩
  have hX : X.w = W.drew := X.ok
  rw [hX]
  have hfz2 : W.drew.frozen? ⟨g, y, none⟩ = false := hfz
  have hcy2 : W.drew.cell? ⟨g, y, none⟩ = some (.bool (decide (y ∈ T))) := k4
  clear q0 q1 q2 q3 hne hX
  go_wp2
  go_ret
  exact ⟨rfl, rfl⟩
theorem job (n x : Nat) (s r : ByteArray) (ci cx B g cap : Nat) (w : World) (hx : x < n) (h8 : n ≤ 8) (hs : s.size = n ∧ r.size = n * n) (hci : ci < w.heap.size) (hcx : cx < w.heap.size) (hg : g < w.heap.size) (hB : B ≤ g) (hne : g ≠ ci ∧ g ≠ cx) :
    Job (stO x) (fun T W => (∀ y, y ∈ T → y < n) ∧ KeptO ci cx B g n cap x T W) (fun _ _ => True) n s r s r 131 #[.pointer (some ⟨ci, 0, none⟩), .pointer (some ⟨cx, 0, none⟩)] B w.heap.size w where
  n8 := h8
  ha := ⟨hs.1, hs.2, hs.1, hs.2⟩
  hB := by omega
  h0 := rfl
  eT := enters_of Tryd.func131 (by kernel_rfl) rfl
  hI := fun T W W' h hb => by
    obtain ⟨h0, h1, h2, h3⟩ := h
    refine ⟨h0, ?_, ?_, ?_⟩
    · rw [hb.cell (p := ⟨ci, 0, none⟩) hci]; exact h1
    · rw [hb.cell (p := ⟨cx, 0, none⟩) hcx]; exact h2
    · unfold OwnB at *
      obtain ⟨e1, e2⟩ := h3
      refine ⟨e1, ?_⟩
      rcases e2 with e2 | ⟨g', cap', cur, hv, hg', hh, r'⟩
      · exact .inl e2
      · refine .inr ⟨g', cap', cur, hv, hg', ?_, r'⟩
        have : g' = g := by have := congrArg Value.ownBlock hv; simpa [Value.ownBlock] using this.symm
        subst this
        rw [hb.block g' hg]; exact hh
  hT := fun T o v W hk hb hr ho => by
    have hol : o.length = n := by rw [ords_len ho]; simp
    have hI := mem_iso.1 ho
    have hy : o.getD x 0 < n := hI.lt x hx
    obtain ⟨hT0, hk1, hk2, hk3⟩ := hk
    refine (tell_any ci cx B g n cap x T o v W ⟨hk1, hk2, hk3⟩ hr (by omega) hy).mono ?_
    rintro e W' ⟨rfl, rfl⟩
    have hst := World.ownsRow.stored hk3 (o.getD x 0) (.bool true)
    refine ⟨some g, grown_trans hst.2 ⟨rfl, rfl, rfl, Nat.le_refl _, fun _ _ _ => rfl⟩, fun k hk => by cases hk; omega, rfl, fun _ => ⟨fun z hz => ?_, ?_, ?_, ?_⟩, fun _ => trivial⟩
    · rcases List.mem_cons.1 hz with rfl | hz
      · exact hy
      · exact hT0 z hz
    · show (W.setCell ⟨g, o.getD x 0, none⟩ (.bool true)).cell? ⟨ci, 0, none⟩ = _
      rw [World.cell?_of_block (w := W) (heap_setCell_other _ _ _ _ (by show ci ≠ g; omega))]; exact hk1
    · show (W.setCell ⟨g, o.getD x 0, none⟩ (.bool true)).cell? ⟨cx, 0, none⟩ = _
      rw [World.cell?_of_block (w := W) (heap_setCell_other _ _ _ _ (by show cx ≠ g; omega))]; exact hk2
    · have h1 := hst.1
      rw [bits_set hy] at h1
      exact World.ownsRow.drew h1
/-- what the search leaves in the row -/
theorem search_any (n x : Nat) (s r : ByteArray) (ci cx B g cap : Nat) (w : World) (hx : x < n) (h8 : n ≤ 8) (hs : s.size = n ∧ r.size = n * n) (hci : ci < w.heap.size) (hcx : cx < w.heap.size) (hg : g < w.heap.size) (hB : B ≤ g) (hne : g ≠ ci ∧ g ≠ cx) (hk : KeptO ci cx B g n cap x [] w) :
    Calls Tryd.prog 57 #[.agg #[.int .i64 n, .string s, .string r], .agg #[.int .i64 n, .string s, .string r], .func (.func 131) #[] #[.pointer (some ⟨ci, 0, none⟩), .pointer (some ⟨cx, 0, none⟩)]] w fun e w' => ∃ v T, e = .returned v ∧ KeptO ci cx B g n cap x T w' ∧ (∀ y, y ∈ T → y < n ∧ ∃ o, Iso n s r s r o ∧ o.getD x 0 = y) ∧ Below B w w' := by
  refine (eachShape_any w (job n x s r ci cx B g cap w hx h8 hs hci hcx hg hB hne) [] ⟨fun y h => absurd h List.not_mem_nil, hk⟩).mono ?_
  rintro e w' ⟨v, T, b, rfl, hr, hi, hf, hb⟩
  obtain ⟨T', h1, h2⟩ := run_stO x (ords n (okB n s r s r) n []) []
  rw [hr] at h1
  have e1 : T = T' := congrArg Prod.fst h1
  have e2 : b = true := congrArg Prod.snd h1
  subst e1 e2
  obtain ⟨h3, h4⟩ := hi rfl
  refine ⟨v, T, rfl, h4, fun y hy => ⟨h3 y hy, ?_⟩, hb⟩
  rcases h2 y hy with h | ⟨o, ho, e⟩
  · cases h
  · exact ⟨o, mem_iso.1 ho, e⟩
/-- those below k that are in T -/
def sel (T : List Nat) (k : Nat) : List Nat := (List.range k).filter fun y => decide (y ∈ T)
theorem sel_yes {T : List Nat} {k : Nat} (h : k ∈ T) : sel T (k + 1) = sel T k ++ [k] := by simp [sel, List.range_succ, h]
theorem sel_no {T : List Nat} {k : Nat} (h : k ∉ T) : sel T (k + 1) = sel T k := by simp [sel, List.range_succ, h]
theorem sel_mem {T : List Nat} {k y : Nat} (h : y ∈ sel T k) : y ∈ T := of_decide_eq_true (List.mem_filter.1 h).2
theorem infoB : (Tryd.prog.info? 4).map (fun i => (i.zero, i.size, i.bytes)) = some (some (.bool false), 1, 1) := by kernel_rfl
theorem bits_nil (n : Nat) : (madeCells #[Value.bool false] n).toList = bits n [] := by
  simp only [bits, List.not_mem_nil, decide_false]
  rw [toList_madeCells_one]
  refine List.ext_getElem (by simp) fun i h1 h2 => by simp
set_option maxHeartbeats 4000000 in
set_option maxRecDepth 100000 in
theorem orbitOf_any (n x : Nat) (s r : ByteArray) (w : World) (hx : x < n) (h8 : n ≤ 8) (hs : s.size = n ∧ r.size = n * n) :
    Calls Tryd.prog 85 #[.agg #[.int .i64 n, .string s, .string r], .int .i64 x] w fun e w' => ∃ v L, e = .returned v ∧ OwnI 3 w' w.heap.size v (ints L) ∧ L.length ≤ n ∧ (∀ y, y ∈ L → y < n ∧ ∃ o, Iso n s r s r o ∧ o.getD x 0 = y) ∧ Below w.heap.size w w' := by
  obtain ⟨i0, hi, hz0, hz1, hz2⟩ := info_parts infoB
  obtain ⟨W2, hW2⟩ : ∃ W2, W2 = (w.alloc (.cells #[.int .i64 n, .string s, .string r] 24)).alloc (.cells #[.int .i64 x] 3) := ⟨_, rfl⟩
  have hsz2 : W2.heap.size = w.heap.size + 2 := by rw [hW2]; simp
  have BA_0 : Hid (Box 24 W2 w.heap.size n s r) := by rw [hW2]; exact (Box.new 24 w w.heap.size rfl n s r).below ((Below.refl (w.heap.size + 1) _).alloc (by simp) _) (by omega)
  have CX_0 : Hid (W2.cell? ⟨w.heap.size + 1, 0, none⟩ = some (.int .i64 x)) := by
    obtain ⟨W1, hW1⟩ : ∃ W1, W1 = w.alloc (.cells #[.int .i64 n, .string s, .string r] 24) := ⟨_, rfl⟩
    have z1 : W1.heap.size = w.heap.size + 1 := by rw [hW1]; simp
    rw [← hW1] at hW2
    have h := heap_alloc_new W1 (.cells #[.int .i64 x] 3)
    rw [z1] at h
    exact Lib.hid (by simp [World.cell?, hW2, h])
  have AW_0 : Hid (Below w.heap.size w W2) := by rw [hW2]; exact ((Below.refl _ _).alloc (Nat.le_refl _) _).alloc (by simp) _
  obtain ⟨G, hG⟩ : ∃ G, G = W2.heap.size := ⟨_, rfl⟩
  have HG := Lib.hid hG
  have HS2 := Lib.hid hsz2
  have HW2 := Lib.hid hW2
  have HS := Lib.hid hs
  clear hW2 hs
  obtain ⟨a0, a1, a2⟩ := BA_0.out.c
  go_enter Tryd.func85, Tryd.ntmps85
  go_upto_region 1 with (fail)
  rw [← HW2.out]
  clear HW2
  go_wp2_with (at_make; refine wpList_make_full W2 rfl _ _ 112 rfl G 4 i0 (.bool false) 1 Tryd.underlying112 hi hz0 hz1 _ _ _ _ n rfl rfl (by omega) (by omega) ?b2 ?b3 (by rw [HG.out]; exact Nat.le_refl _) ?_)
  case b2 => rw [hz2]; omega
  case b3 => unfold maxLen; omega
  intro w1 hown0 hgrow0
  clear a0 a1 a2
  have hb1 : Below W2.heap.size W2 w1 := below_of_grown hgrow0 (Nat.le_refl _) (fun k h => by cases h)
  have hz1 : w.heap.size + 2 ≤ w1.heap.size := by have := hb1.size; omega
  have hrow1 : OwnB w1 (w.heap.size + 2) (.slice (some ⟨w.heap.size + 2, 0, none⟩) n n) n [] := by
    unfold OwnB; rw [← bits_nil]
    try rw [hG, hsz2] at hown0
    exact hown0
  have hg1 : w.heap.size + 2 < w1.heap.size := hrow1.ge.2
  obtain ⟨W3, hW3⟩ : ∃ W3, W3 = w1.alloc (.cells #[.slice (some ⟨w.heap.size + 2, 0, none⟩) n n] 112) := ⟨_, rfl⟩
  have hb3 : Below w1.heap.size w1 W3 := by rw [hW3]; exact (Below.refl _ _).alloc (Nat.le_refl _) _
  have hb13 : Below W2.heap.size W2 W3 := hb1.trans (hb3.mono hb1.size)
  have BA_3 : Hid (Box 24 W3 w.heap.size n s r) := BA_0.out.below hb13 BA_0.out.lt
  have KO : Hid (KeptO w1.heap.size (w.heap.size + 1) (w.heap.size + 2) (w.heap.size + 2) n n x [] W3) := by
    refine ⟨?_, ?_, hrow1.below hb3 (Nat.le_refl _)⟩
    · have h := heap_alloc_new w1 (.cells #[.slice (some ⟨w.heap.size + 2, 0, none⟩) n n] 112)
      rw [← hW3] at h
      simp [World.cell?, h]
    · rw [hb13.cell (p := ⟨w.heap.size + 1, 0, none⟩) (by show w.heap.size + 1 < _; omega)]; exact CX_0.out
  have AW_3 : Hid (Below w.heap.size w W3) := AW_0.out.trans (hb13.mono AW_0.out.size)
  have hz3 : W3.heap.size = w1.heap.size + 1 := by rw [hW3]; simp
  obtain ⟨ci, hci⟩ : ∃ ci, ci = w1.heap.size := ⟨_, rfl⟩
  obtain ⟨g, hgg⟩ : ∃ g, g = w.heap.size + 2 := ⟨_, rfl⟩
  go_upto_region 2 with (fail)
  rw [← hW3, ← hci, ← hgg]
  rw [← hci, ← hgg] at KO
  have HN := Lib.hid (show g < ci ∧ W3.heap.size = ci + 1 ∧ g = w.heap.size + 2 from ⟨by omega, by omega, hgg⟩)
  clear hown0 hgrow0 hb1 hz1 hrow1 hg1 hW3 hb3 hb13 hz3 hci hgg hG HG HS2 hsz2 BA_0 CX_0 AW_0
  obtain ⟨a0, a1, a2⟩ := BA_3.out.c
  go_wp2_with fail
  refine (search_any n x s r ci (w.heap.size + 1) g g n W3 hx h8 HS.out (by have := HN.out; omega) (by have := HN.out; omega) (by have := HN.out; omega) (Nat.le_refl _) (by have := HN.out; omega) KO.out).mono ?_
  rintro e W4 ⟨v, T, rfl, hk, hT, hb⟩
  obtain ⟨k1, -, k3⟩ := hk
  have HT := Lib.hid hT
  have AW_4 : Hid (Below w.heap.size w W4) := AW_3.out.trans (hb.mono (by have := HN.out; omega))
  have K3 := Lib.hid k3
  have hz4 : w.heap.size ≤ W4.heap.size := AW_4.out.size
  have he : Hid (OwnI 3 (W4.alloc (.cells #[] 3)) W4.heap.size (.slice (some ⟨W4.heap.size, 0, none⟩) 0 0) []) := World.ownsRow_made W4 #[] 0 (Nat.le_refl _) (Nat.zero_le _) rfl
  have hb0 : Hid (Below W4.heap.size W4 (W4.alloc (.cells #[] 3))) := (Below.refl _ _).alloc (Nat.le_refl _) _
  have hclt : ci < W4.heap.size := World.block_lt_of_cell? W4 _ k1
  have k2 : (W4.alloc (.cells #[] 3)).cell? ⟨ci, 0, none⟩ = some (.slice (some ⟨g, 0, none⟩) n n) := by rw [hb0.out.cell (p := ⟨ci, 0, none⟩) hclt]; exact k1
  clear hT hb k3 a0 a1 a2 KO BA_3 AW_3
  go_wp2_with fail
  go_loopw [6, 7, 8, 19] (fun v _ _ i wr => ∃ k : Nat, ∃ u : Value, u = v ∧ k ≤ n ∧ i = .int .i64 k ∧ OwnI 3 wr W4.heap.size u (ints (sel T k)) ∧ Below W4.heap.size W4 wr) (fun _ _ _ i _ => n - (intOf i).toNat)
  case atStart => exact ⟨0, _, rfl, Nat.zero_le _, rfl, he.out, hb0.out⟩
  case round =>
    clear he hb0 k1 k2 hclt
    obtain ⟨k, v_1, rfl, hk, rfl, hown, hnx⟩ := hrel
    have HO := Lib.hid hown
    have HX := Lib.hid hnx
    by_cases hlt : k < n
    · have hsz : W4.heap.size ≤ wr.heap.size := hnx.size
      have hc : wr.cell? ⟨g, k, none⟩ = some (.bool (decide (k ∈ T))) := by
        rw [hnx.cell (p := ⟨g, k, none⟩) K3.out.ge.2]; exact K3.out.cell hlt
      have HL : Hid ((ints (sel T k)).length ≤ k) := by
        rw [Hid, ints_len]
        have := List.length_filter_le (fun y => decide (y ∈ T)) (List.range k)
        rw [List.length_range] at this; exact this
      clear hown hnx
      by_cases hm : k ∈ T
      · have tm : decide (k ∈ T) = true := decide_eq_true hm
        rw [tm] at hc
        have HS1 : Hid (ints (sel T (k + 1)) = ints (sel T k) ++ [(k : Int)]) := by rw [Hid, sel_yes hm, ints_app]; rfl
        clear hm tm
        go_wp2_with (at_builtin; refine wpList_app1 wr rfl (.tmp 25) (.tmp 27) 32 rfl W4.heap.size 3 (.int .i64 0) 8 Tryd.underlying32 sl.infoInt rfl (by decide) _ _ _ (.int .i64 k) rfl HO.out wr.heap.size rfl rfl rfl (by have := HL.out; omega) hsz ?_)
        intro g' cap' w9 hown9 hgr
        have R : Hid (OwnI 3 w9 W4.heap.size (.slice (some ⟨g', 0, none⟩) ((ints (sel T k)).length + 1) cap') (ints (sel T (k + 1))) ∧ Below W4.heap.size W4 w9) :=
          ⟨by rw [HS1.out]; unfold OwnI; rw [List.length_append, ivs_append]; exact hown9, HX.out.trans (hgr.below HO.out hsz)⟩
        clear hown9 hgr
        go_wp2
        go_roundw
        case rel => first | exact ⟨k + 1, _, rfl, by omega, by go_num, R.out.1, R.out.2⟩ | ((repeat apply Exists.intro); exact ⟨⟨k + 1, _, rfl, by omega, by go_num, R.out.1, R.out.2⟩, rfl⟩)
        case measure => simp [intOf]; omega
      · have tm : decide (k ∈ T) = false := decide_eq_false hm
        rw [tm] at hc
        have R : Hid (OwnI 3 wr W4.heap.size v_1 (ints (sel T (k + 1)))) := by rw [sel_no hm]; exact HO.out
        clear hm tm
        go_wp2
        go_roundw
        case rel => first | exact ⟨k + 1, _, rfl, by omega, by go_num, R.out, HX.out⟩ | ((repeat apply Exists.intro); exact ⟨⟨k + 1, _, rfl, by omega, by go_num, R.out, HX.out⟩, rfl⟩)
        case measure => simp [intOf]; omega
    · obtain rfl : n = k := by omega
      clear hown hnx
      go_wp2
      go_ret
      refine ⟨_, sel T n, rfl, HO.out.mono hz4, ?_, fun y hy => HT.out y (sel_mem hy), AW_4.out.trans (HX.out.mono hz4)⟩
      have := List.length_filter_le (fun y => decide (y ∈ T)) (List.range n)
      rw [List.length_range] at this; exact this
set_option maxHeartbeats 1600000 in
theorem implOrbitOf_at (N x : Nat) (s r : ByteArray) (w : World) (hv : validB N s r = true) (hx : x < N) (h8 : N ≤ 8) (hs : s.size = N) (hr : r.size = N * N) :
    Calls Tryd.prog 37 #[.agg #[.int .i64 N, .string s, .string r], .int .i64 x] w fun e w' => ∃ v L, e = .returned v ∧ OwnI 3 w' w.heap.size v (ints L) ∧ L.length ≤ N ∧ (∀ y, y ∈ L → y < N ∧ ∃ o, Iso N s r s r o ∧ o.getD x 0 = y) ∧ Below w.heap.size w w' := by
  have BX : Hid (Box 24 (w.alloc (.cells #[.int .i64 N, .string s, .string r] 24)) w.heap.size N s r) := Box.new _ w _ rfl N s r
  have AW : Hid (Below w.heap.size w (w.alloc (.cells #[.int .i64 N, .string s, .string r] 24))) := (Below.refl _ _).alloc (Nat.le_refl _) _
  have EX : Hid (elemB N s r x = true) := elemB_iff.2 ⟨hv, by omega, by omega⟩
  have HS := Lib.hid (show _ ∧ _ from ⟨hs, hr⟩)
  have hs9 : s.size ≤ 9223372036854775807 := by omega
  have hr9 : r.size ≤ 9223372036854775807 := by have : N * N ≤ 8 * 8 := Nat.mul_le_mul h8 h8; omega
  clear hv hs hr
  go_enter Tryd.func37, Tryd.ntmps37
  go_wp2_with fail
  refine (hasElement_any N s r x _ hs9 hr9).mono ?_
  rintro e w1 ⟨rfl, hw⟩
  rw [EX.out]
  have AW1 : Hid (Below w.heap.size w w1) := AW.out.trans (hw.mono (by simp))
  have BX1 := Lib.hid (BX.out.below hw (by simp))
  obtain ⟨c0, c1, c2⟩ := BX1.out.c
  clear hw
  go_wp2_with fail
  refine (orbitOf_any N x s r _ hx h8 HS.out).mono ?_
  rintro e w3 ⟨v, L, rfl, ho, hl, hL, hw⟩
  have R := Lib.hid (show _ ∧ _ ∧ _ ∧ _ from ⟨ho.mono AW1.out.size, hl, hL, AW1.out.trans (hw.mono AW1.out.size)⟩)
  clear hw c0 c1 c2 ho hl hL
  go_wp2
  go_ret
  exact ⟨v, L, rfl, R.out.1, R.out.2.1, R.out.2.2.1, R.out.2.2.2⟩
end Go.Proofs.YtefneihlgclkbaaDoor.orbit
