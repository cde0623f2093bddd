/- eachShape: it tells the orders that fit, in order, until it is enough. The contract is over what is told to: any function, with a state. -/
import Derived.Test.YtpcnoiigbmiejaaGreatDoorPkO
import Derived.Test.YtpcnoiigbmiejaaGreatDoorMake
import Derived.Test.YtpcnoiigbmiejaaGreatDoorPk3
import Derived.Test.YtpcnoiigbmiejaaGreatDoorShelfC
namespace Go.Proofs.YtpcnoiigbmiejaaGreatDoor.each
set_option linter.unusedVariables false
set_option linter.unusedSimpArgs false
open Go.ChangeShapes Go.WideShapes Go.ChangeAt Go.RowKit
open Go.Proofs.YtpcnoiigbmiejaaGreatDoor.lib Go.Proofs.YtpcnoiigbmiejaaGreatDoor.st Go.Proofs.YtpcnoiigbmiejaaGreatDoor.base Go.Proofs.YtpcnoiigbmiejaaGreatDoor.ord Go.Proofs.YtpcnoiigbmiejaaGreatDoor.fits Go.Proofs.YtpcnoiigbmiejaaGreatDoor.sl

theorem contains_ints (l : List Nat) (x : Nat) : (ints l).contains (x : Int) = l.contains x := by
  rw [Bool.eq_iff_iff, List.contains_iff_mem, List.contains_iff_mem]
  unfold ints
  constructor
  · intro h
    obtain ⟨y, hy, e⟩ := List.mem_map.1 h
    have : y = x := by omega
    subst this; exact hy
  · intro h; exact List.mem_map.2 ⟨x, h, rfl⟩

theorem contains_any (v : Value) (l : List Nat) (x : Nat) (w : World) (hv : Reads w v (ints l)) (hl : l.length ≤ 100) :
    Calls Tryz.prog 83 #[v, .int .i64 x] w fun e w' => e = .returned (.bool (l.contains x)) ∧ w = w' := by
  obtain ⟨ao, cap, rfl, h, _⟩ := hv
  rw [ints_len] at h ⊢
  rcases h with h | ⟨b, off, rfl, hc⟩
  · have hl0 : l.length = 0 := by rw [← ints_len, h]; rfl
    have : l = [] := List.length_eq_zero_iff.1 hl0
    subst this
    have hcon := Any.slices_Contains_int_empty Tryz.lays107 ao cap x w
    exact hcon.mono fun e w' ⟨h1, h2⟩ => ⟨h1, h2.symm⟩
  · have hcon := Any.slices_Contains_int Tryz.lays107 b off l.length cap (ints l) x w (by rw [ints_len]; exact Nat.le_refl _) (by omega) (fun j hj => hc j (by rw [ints_len] at hj; exact hj))
    refine hcon.mono ?_
    rintro e w' ⟨rfl, rfl⟩
    refine ⟨?_, rfl⟩
    rw [show (ints l).take l.length = ints l from List.take_of_length_le (by rw [ints_len]; exact Nat.le_refl _), contains_ints]

/-- where the search keeps what it works on: blocks from B0 on -/
def caps (B0 : Nat) : Array Value := #[.pointer (some ⟨B0 + 4, 0, none⟩), .pointer (some ⟨B0, 0, none⟩), .pointer (some ⟨B0 + 2, 0, none⟩), .pointer (some ⟨B0 + 1, 0, none⟩), .pointer (some ⟨B0 + 5, 0, none⟩)]
structure Pl (n : Nat) (sa ra sb rb : ByteArray) (ft : FuncId) (cs : Array Value) (B0 : Nat) (pre : List Nat) (W : World) : Prop where
  a : Box 24 W B0 n sa ra
  b : Box 24 W (B0 + 1) n sb rb
  t : W.cell? ⟨B0 + 2, 0, none⟩ = some (.func (.func ft) #[] cs)
  p : W.cell? ⟨B0 + 5, 0, none⟩ = some (.func (.func 82) #[] (caps B0))
  o : ∃ g cap, W.heap[B0 + 4]? = some (.cells #[.slice (some ⟨g, 0, none⟩) pre.length cap] 29 (0, 0)) ∧ OwnI 3 W (B0 + 3) (.slice (some ⟨g, 0, none⟩) pre.length cap) (ints pre) ∧ (g = B0 + 3 ∨ B0 + 6 ≤ g)
  z : B0 + 6 ≤ W.heap.size
variable {n : Nat} {sa ra sb rb : ByteArray} {ft : FuncId} {cs : Array Value} {B0 : Nat} {pre : List Nat} {W : World}
theorem Pl.same (h : Pl n sa ra sb rb ft cs B0 pre W) {W' : World} (hs : ∀ k, B0 ≤ k → k < W.heap.size → W'.heap[k]? = W.heap[k]?) (hz : W.heap.size ≤ W'.heap.size) : Pl n sa ra sb rb ft cs B0 pre W' := by
  have z := h.z
  refine ⟨?_, ?_, ?_, ?_, ?_, by omega⟩
  · have := h.a; unfold Box at *; rw [hs B0 (Nat.le_refl _) (by omega)]; exact this
  · have := h.b; unfold Box at *; rw [hs (B0 + 1) (by omega) (by omega)]; exact this
  · rw [World.cell?_of_block (w := W) (hs (B0 + 2) (by omega) (by omega))]; exact h.t
  · rw [World.cell?_of_block (w := W) (hs (B0 + 5) (by omega) (by omega))]; exact h.p
  · obtain ⟨g, cap, hc, hown, hg⟩ := h.o
    refine ⟨g, cap, by rw [hs (B0 + 4) (by omega) (by omega)]; exact hc, ?_, hg⟩
    refine ⟨hown.1, ?_⟩
    rcases hown.2 with hn | ⟨g', cap', cur, hv, hb, hh, r⟩
    · exact .inl hn
    · have := (Array.getElem?_eq_some_iff.1 hh).1
      exact .inr ⟨g', cap', cur, hv, hb, by rw [hs g' (by omega) this]; exact hh, r⟩
theorem Pl.below (h : Pl n sa ra sb rb ft cs B0 pre W) {W' : World} (hb : Below W.heap.size W W') : Pl n sa ra sb rb ft cs B0 pre W' :=
  h.same (fun k _ hk => hb.block k hk) hb.size
theorem Pl.cell (h : Pl n sa ra sb rb ft cs B0 pre W) : ∃ g cap, W.cell? ⟨B0 + 4, 0, none⟩ = some (.slice (some ⟨g, 0, none⟩) pre.length cap) ∧ W.frozen? ⟨B0 + 4, 0, none⟩ = false ∧ OwnI 3 W (B0 + 3) (.slice (some ⟨g, 0, none⟩) pre.length cap) (ints pre) ∧ (g = B0 + 3 ∨ B0 + 6 ≤ g) := by
  obtain ⟨g, cap, hc, hown, hg⟩ := h.o
  exact ⟨g, cap, by simp [World.cell?, hc], frozen_of_row W _ 0 _ _ hc, hown, hg⟩

/-- one more element behind -/
theorem Pl.push (h : Pl n sa ra sb rb ft cs B0 pre W) {x g cap g' cap' : Nat} {W' : World} (hg : g = B0 + 3 ∨ B0 + 6 ≤ g) (hgr : Grew W W' (.slice (some ⟨g, 0, none⟩) pre.length cap) (.slice (some ⟨g', 0, none⟩) (pre.length + 1) cap'))
    (hown : OwnI 3 W' (B0 + 3) (.slice (some ⟨g', 0, none⟩) (pre.length + 1) cap') (ints (pre ++ [x]))) :
    Pl n sa ra sb rb ft cs B0 (pre ++ [x]) (W'.setCell ⟨B0 + 4, 0, none⟩ (.slice (some ⟨g', 0, none⟩) (pre.length + 1) cap')) := by
  have z := h.z
  have hsz := hgr.grown.size
  have hg' : g' = B0 + 3 ∨ B0 + 6 ≤ g' := by
    rcases hgr.blk g' rfl with e | e
    · simp [Value.ownBlock] at e; omega
    · omega
  have hs : ∀ k, k < W.heap.size → k ≠ g → W'.heap[k]? = W.heap[k]? := fun k hk hne => hgr.grown.block k hk (by simp [Value.ownBlock]; exact hne)
  have hs2 : ∀ k, k < W.heap.size → k ≠ g → k ≠ B0 + 4 → (W'.setCell ⟨B0 + 4, 0, none⟩ (.slice (some ⟨g', 0, none⟩) (pre.length + 1) cap')).heap[k]? = W.heap[k]? := fun k hk hne h4 => by
    rw [heap_setCell_other _ _ _ _ (by exact h4)]; exact hs k hk hne
  refine ⟨?_, ?_, ?_, ?_, ?_, by simp; omega⟩
  · have := h.a; unfold Box at *; rw [hs2 B0 (by omega) (by omega) (by omega)]; exact this
  · have := h.b; unfold Box at *; rw [hs2 (B0 + 1) (by omega) (by omega) (by omega)]; exact this
  · rw [World.cell?_of_block (w := W) (hs2 (B0 + 2) (by omega) (by omega) (by omega))]; exact h.t
  · rw [World.cell?_of_block (w := W) (hs2 (B0 + 5) (by omega) (by omega) (by omega))]; exact h.p
  · obtain ⟨g0, cap0, hc, -, -⟩ := h.o
    refine ⟨g', cap', ?_, ?_, hg'⟩
    · rw [heap_setCell_same W' (B0 + 4) 0 #[.slice (some ⟨g0, 0, none⟩) pre.length cap0] 29 _ (by rw [hs (B0 + 4) (by omega) (by omega)]; exact hc)]
      simp
    · rw [show (pre ++ [x]).length = pre.length + 1 from by simp]
      exact World.ownsRow.kept (row := some (B0 + 4)) hown (draw_grown _ _ _ _) (.inr (by simp [Value.ownBlock]; omega))
where
  draw_grown (w : World) (R o : Nat) (v : Value) : w.grownBy (w.setCell ⟨R, o, none⟩ v) (some R) :=
    ⟨rfl, rfl, rfl, by simp, fun k hk hne => heap_setCell_other _ _ _ _ (fun e => hne (by rw [e]))⟩
theorem ownI_take {T : TypeId} {w : World} {B g n cap m : Nat} {l : List Int} (h : OwnI T w B (.slice (some ⟨g, 0, none⟩) n cap) l) (hm : m ≤ n) : OwnI T w B (.slice (some ⟨g, 0, none⟩) m cap) (l.take m) := by
  have hn := h.len
  rcases h.2 with ⟨h', _⟩ | ⟨g', cap', cur, hv, hb, hh, hc1, hc2, hc3, hc4⟩
  · simp at h'
  · simp only [Value.slice.injEq, Option.some.injEq, Addr.mk.injEq] at hv
    obtain ⟨⟨rfl, -, -⟩, -, rfl⟩ := hv
    refine ⟨by simp [ivs], .inr ⟨g, cap, cur, by rw [List.length_take, Nat.min_eq_left (by omega)], hb, hh, by rw [List.length_take]; omega, hc2, hc3, ?_⟩⟩
    rw [Nat.mul_one] at hc4 ⊢
    rw [List.length_take, Nat.min_eq_left (by omega)]
    have e : (ivs l).take m = ivs (l.take m) := by simp [ivs, List.map_take]
    rw [← e, ← hc4, List.take_take, Nat.min_eq_left (by omega)]
/-- the last element is dropped -/
theorem Pl.pop {x g cap : Nat} (h : Pl n sa ra sb rb ft cs B0 (pre ++ [x]) W) (hc : W.cell? ⟨B0 + 4, 0, none⟩ = some (.slice (some ⟨g, 0, none⟩) (pre ++ [x]).length cap))  :
    Pl n sa ra sb rb ft cs B0 pre (W.setCell ⟨B0 + 4, 0, none⟩ (.slice (some ⟨g, 0, none⟩) pre.length cap)) := by
  have z := h.z
  obtain ⟨g0, cap0, hb, hown, hg⟩ := h.o
  have hc' : W.cell? ⟨B0 + 4, 0, none⟩ = some (.slice (some ⟨g0, 0, none⟩) (pre ++ [x]).length cap0) := by simp [World.cell?, hb]
  rw [hc] at hc'
  simp only [Option.some.injEq, Value.slice.injEq, Addr.mk.injEq] at hc'
  obtain ⟨⟨rfl, -, -⟩, -, rfl⟩ := hc'
  have hs2 : ∀ k, k ≠ B0 + 4 → (W.setCell ⟨B0 + 4, 0, none⟩ (.slice (some ⟨g, 0, none⟩) pre.length cap)).heap[k]? = W.heap[k]? := fun k h4 => heap_setCell_other _ _ _ _ (by exact h4)
  refine ⟨?_, ?_, ?_, ?_, ?_, by simp; omega⟩
  · have := h.a; unfold Box at *; rw [hs2 B0 (by omega)]; exact this
  · have := h.b; unfold Box at *; rw [hs2 (B0 + 1) (by omega)]; exact this
  · rw [World.cell?_of_block (w := W) (hs2 (B0 + 2) (by omega))]; exact h.t
  · rw [World.cell?_of_block (w := W) (hs2 (B0 + 5) (by omega))]; exact h.p
  · refine ⟨g, cap, ?_, ?_, hg⟩
    · rw [heap_setCell_same W (B0 + 4) 0 #[.slice (some ⟨g, 0, none⟩) (pre ++ [x]).length cap] 29 _ hb]
      simp
    · have h1 := ownI_take (m := pre.length) hown (by simp)
      rw [ints_app, List.take_left' (by rw [ints_len])] at h1
      exact World.ownsRow.kept (row := some (B0 + 4)) h1 (Pl.push.draw_grown _ _ _ _) (.inr (by simp [Value.ownBlock]; omega))

/-- what telling an order leaves: at most one block of the caller's is written -/
def Told {σ : Type} (st : σ → List Nat → σ × Bool) (Inv Fin : σ → World → Prop) (B B0 : Nat) (s : σ) (o : List Nat) (W : World) (e : Ending) (W' : World) : Prop :=
  ∃ row, W.grownBy W' row ∧ (∀ k, row = some k → B ≤ k ∧ k < B0) ∧ e = .returned (.bool (st s o).2) ∧ ((st s o).2 = true → Inv (st s o).1 W') ∧ ((st s o).2 = false → Fin (st s o).1 W')
/-- what the search behind pre leaves -/
def Done {σ : Type} (st : σ → List Nat → σ × Bool) (Inv Fin : σ → World → Prop) (B : Nat) (w0 : World) (L : List (List Nat)) (s : σ) (K : World → Prop) (e : Ending) (W' : World) : Prop :=
  (∃ s', run st L s = (s', true) ∧ e = .returned (.bool true) ∧ K W' ∧ Inv s' W' ∧ Below B w0 W') ∨ (∃ s', run st L s = (s', false) ∧ e = .returned (.bool false) ∧ Fin s' W' ∧ Below B w0 W')
/-- what the search is over -/
structure Job {σ : Type} (st : σ → List Nat → σ × Bool) (Inv Fin : σ → World → Prop) (n : Nat) (sa ra sb rb : ByteArray) (ft : FuncId) (cs : Array Value) (B B0 : Nat) (w0 : World) : Prop where
  n8 : n ≤ 8
  ha : sa.size = n ∧ ra.size = n * n ∧ sb.size = n ∧ rb.size = n * n
  hB : B ≤ B0
  h0 : B0 = w0.heap.size
  eT : make.Enters ft
  hI : ∀ s W W', Inv s W → Below B0 W W' → Inv s W'
  hT : ∀ s o v W, Inv s W → Below B w0 W → Reads W v (ints o) → o ∈ ords n (okB n sa ra sb rb) n [] → Calls Tryz.prog ft (#[v] ++ cs) W (Told st Inv Fin B B0 s o W)

def Goes {σ : Type} (st : σ → List Nat → σ × Bool) (Inv Fin : σ → World → Prop) (n : Nat) (sa ra sb rb : ByteArray) (ft : FuncId) (cs : Array Value) (B B0 : Nat) (w0 : World) (d : Nat) : Prop :=
  ∀ (pre : List Nat) (s : σ) (W : World), pre.length + d = n → (∀ y, y ∈ pre → y < n) → (∀ o, o ∈ ords n (okB n sa ra sb rb) d pre → o ∈ ords n (okB n sa ra sb rb) n []) → Inv s W → Pl n sa ra sb rb ft cs B0 pre W → Below B w0 W →
      Calls Tryz.prog 82 #[.pointer (some ⟨B0 + 4, 0, none⟩), .pointer (some ⟨B0, 0, none⟩), .pointer (some ⟨B0 + 2, 0, none⟩), .pointer (some ⟨B0 + 1, 0, none⟩), .pointer (some ⟨B0 + 5, 0, none⟩)] W
        (Done st Inv Fin B w0 (ords n (okB n sa ra sb rb) d pre) s (Pl n sa ra sb rb ft cs B0 pre))
variable {σ : Type} {st : σ → List Nat → σ × Bool} {Inv Fin : σ → World → Prop} {B : Nat} {w0 : World}
set_option maxHeartbeats 4000000 in
set_option maxRecDepth 100000 in
theorem place_zero (J : Job st Inv Fin n sa ra sb rb ft cs B B0 w0) : Goes st Inv Fin n sa ra sb rb ft cs B B0 w0 0 := by
  intro pre s W hl hp hsub hinv hpl hbl
  have hmem := hsub pre (by simp [ords])
  have HQ := Lib.hid (show _ ∧ _ ∧ _ ∧ _ ∧ _ from ⟨hmem, hinv, hpl, hbl, hl⟩)
  have eT := J.eT
  have hz := hpl.z
  obtain ⟨g, cap, c4, -, hown, -⟩ := hpl.cell
  obtain ⟨c0, c1, c2⟩ := hpl.a.c
  have ct := hpl.t
  have RD := Lib.hid hown.reads
  have tn : ((pre.length : Int) == (n : Int)) = true := by simp; omega
  have JJ := Lib.hid J
  unfold make.Enters at eT
  clear hl hp hsub hinv hpl hbl hmem hown J
  go_enter Tryz.func82, Tryz.ntmps82
  go_wp2_with fail
  with_reducible show Calls _ ft _ _ _
  refine (JJ.out.hT s pre _ W HQ.out.2.1 HQ.out.2.2.2.1 RD.out HQ.out.1).mono ?_
  rintro e W1 ⟨row, hg, hrow, rfl, h1, h2⟩
  have hbl : Below B w0 W1 := HQ.out.2.2.2.1.trans (below_of_grown hg (by have := JJ.out.hB; have := JJ.out.h0; have := HQ.out.2.2.1.z; omega) (fun k hk => (hrow k hk).1))
  have hpl1 := HQ.out.2.2.1.same (W' := W1) (fun k hk hkl => hg.block k hkl (fun e => by have := (hrow k e.symm).2; omega)) hg.size
  have R : Hid (Done st Inv Fin B w0 (ords n (okB n sa ra sb rb) 0 pre) s (Pl n sa ra sb rb ft cs B0 pre) (.returned (.bool (st s pre).2)) W1) := by
    unfold Hid Done
    rw [ords, run_one]
    cases hb : (st s pre).2 with
    | true => exact .inl ⟨(st s pre).1, by rw [← hb], rfl, hpl1, h1 hb, hbl⟩
    | false => exact .inr ⟨(st s pre).1, by rw [← hb], rfl, h2 hb, hbl⟩
  generalize (st s pre).2 = bb at R
  clear h1 h2 hpl1 hbl hg hrow c4 c0 c1 c2 ct
  go_wp2
  go_ret
  exact R.out

/-- the state at the head of the loop: those behind pre whose next element is less than k are told -/
def Lp (st : σ → List Nat → σ × Bool) (Inv : σ → World → Prop) (n : Nat) (sa ra sb rb : ByteArray) (ft : FuncId) (cs : Array Value) (B B0 : Nat) (w0 : World) (d : Nat) (pre : List Nat) (s : σ) (k : Nat) (wr : World) : Prop :=
  ∃ s', run st (upto n (okB n sa ra sb rb) d pre k) s = (s', true) ∧ Inv s' wr ∧ Pl n sa ra sb rb ft cs B0 pre wr ∧ Below B w0 wr
theorem Lp.next (J : Job st Inv Fin n sa ra sb rb ft cs B B0 w0) {d : Nat} {s : σ} {k : Nat} {wr W : World} (h : Lp st Inv n sa ra sb rb ft cs B B0 w0 d pre s k wr) (hno : okB n sa ra sb rb pre k = false) (hb : Below wr.heap.size wr W) :
    Lp st Inv n sa ra sb rb ft cs B B0 w0 d pre s (k + 1) W := by
  obtain ⟨s', h1, h2, h3, h4⟩ := h
  have z := h3.z
  have := J.hB
  have := J.h0
  exact ⟨s', by rw [upto_no hno]; exact h1, J.hI s' wr W h2 (hb.mono (by omega)), h3.below hb, h4.trans (hb.mono (by omega))⟩
set_option maxHeartbeats 8000000 in
set_option maxRecDepth 100000 in
theorem place_succ (J : Job st Inv Fin n sa ra sb rb ft cs B B0 w0) {d : Nat} (ih : Goes st Inv Fin n sa ra sb rb ft cs B B0 w0 d) : Goes st Inv Fin n sa ra sb rb ft cs B B0 w0 (d + 1) := by
  intro pre s W hl hp hsub hinv hpl hbl
  have hln : pre.length < n := by omega
  have hn8 := J.n8
  have hB := J.hB
  have START : Hid (Lp st Inv n sa ra sb rb ft cs B B0 w0 d pre s 0 W) := ⟨s, by rw [upto_zero]; rfl, hinv, hpl, hbl⟩
  have HQ := Lib.hid (show _ ∧ _ ∧ _ from ⟨hp, hsub, hl⟩)
  have hz := hpl.z
  obtain ⟨g, cap, c4, -, -, -⟩ := hpl.cell
  obtain ⟨c0, c1, c2⟩ := hpl.a.c
  have tn : ((pre.length : Int) == (n : Int)) = false := by simp; omega
  have JJ := Lib.hid J
  have IH := Lib.hid ih
  have eP : make.Enters 82 := make.enters_of Tryz.func82 (by kernel_rfl) rfl
  unfold make.Enters at eP
  clear hl hp hsub hinv hpl hbl J ih
  go_enter Tryz.func82, Tryz.ntmps82
  go_wp2_with fail
  clear c4 c0 c1 c2 tn
  go_loopw [19] (fun i wr => ∃ k : Nat, k ≤ n ∧ i = .int .i64 k ∧ Lp st Inv n sa ra sb rb ft cs B B0 w0 d pre s k wr) (fun i _ => n - (intOf i).toNat)
  case atStart => exact ⟨0, Nat.zero_le _, rfl, START.out⟩
  case round =>
    clear START
    obtain ⟨k, hk, rfl, hlp⟩ := hrel
    have HL := Lib.hid hlp
    obtain ⟨s1, hrun, hinv, hpl, hbl⟩ := hlp
    have HP := Lib.hid (show _ ∧ _ ∧ _ ∧ _ from ⟨hrun, hinv, hpl, hbl⟩)
    have hzr := hpl.z
    obtain ⟨g, cap, c4, f4, hown, hgg⟩ := hpl.cell
    obtain ⟨a0, a1, a2⟩ := hpl.a.c
    obtain ⟨b0, b1, b2⟩ := hpl.b.c
    have HO := Lib.hid (show _ ∧ _ from ⟨hown, hgg⟩)
    clear hrun hinv hpl hbl hown hgg
    by_cases hkn : k < n
    · go_wp2_with fail
      refine (contains_any _ pre k _ HO.out.1.reads (by omega)).mono ?_
      rintro e w' ⟨rfl, rfl⟩
      cases hc : pre.contains k with
      | true =>
        have R := Lib.hid (HL.out.next JJ.out (by unfold okB; rw [hc]; rfl) (Below.refl _ _))
        clear hc
        go_wp2
        go_roundw
        case rel => exact ⟨k + 1, by omega, by go_num, R.out⟩
        case measure => simp [intOf]; omega
      | false =>
        have HC := Lib.hid hc
        clear hc
        go_wp2_with fail
        refine (placed_any n sa ra sb rb pre _ k _ hkn hln HQ.out.1 hn8 JJ.out.ha.1 JJ.out.ha.2.1 JJ.out.ha.2.2.1 JJ.out.ha.2.2.2 HO.out.1.reads).mono ?_
        rintro e W1 ⟨rfl, hb⟩
        have HB1 := Lib.hid hb
        clear c4 f4 a0 a1 a2 b0 b1 b2 hb
        cases hpb : placedB n sa ra sb rb pre k with
        | false =>
          have R := Lib.hid (HL.out.next JJ.out (by unfold okB; rw [hpb, Bool.and_false]) HB1.out)
          clear hpb
          go_wp2
          go_roundw
          case rel => exact ⟨k + 1, by omega, by go_num, R.out⟩
          case measure => simp [intOf]; omega
        | true =>
          have HOK : Hid (okB n sa ra sb rb pre k = true) := by unfold Hid okB; rw [HC.out, hpb]; rfl
          have hpl1 := HP.out.2.2.1.below HB1.out
          obtain ⟨g1, cap1, c4, f4, hown1, hg1⟩ := hpl1.cell
          have hown2 : W1.ownsRow (B0 + 3) 3 1 (.slice (some ⟨g1, 0, none⟩) pre.length cap1) pre.length (ivs (ints pre)) := by have h := hown1; unfold OwnI at h; rw [ints_len] at h; exact h
          have cp := hpl1.p
          unfold caps at cp
          have z1 := hpl1.z
          have HW := Lib.hid (show _ ∧ _ ∧ _ from ⟨hown2, hpl1, hg1⟩)
          clear hpb hown1 hown2 hpl1 hg1
          go_wp2_with (at_builtin; refine wpList_app1 W1 rfl (.tmp 33) (.tmp 35) 29 rfl (B0 + 3) 3 (.int .i64 0) 8 Tryz.underlying29 infoInt rfl (by decide) _ _ _ (.int .i64 k) rfl HW.out.1 W1.heap.size rfl rfl rfl (by omega) (by omega) ?_)
          intro g' cap' w9 hown9 hgr
          have hne : g1 ≠ B0 + 4 ∧ g1 ≠ B0 + 5 := by have := HW.out.2.2; omega
          have d4 := hgr.grown.cell c4 (by simp [Value.ownBlock]; exact fun e => hne.1 e.symm)
          have d5 := hgr.grown.cell cp (by simp [Value.ownBlock]; exact fun e => hne.2 e.symm)
          have e4 : w9.frozen? ⟨B0 + 4, 0, none⟩ = false := by rw [World.frozen?_of_block (w := W1) (hgr.grown.block (B0 + 4) (by omega) (by simp [Value.ownBlock]; exact fun e => hne.1 e.symm))]; exact f4
          have hownI : OwnI 3 w9 (B0 + 3) (.slice (some ⟨g', 0, none⟩) (pre.length + 1) cap') (ints (pre ++ [k])) := by
            unfold OwnI
            rw [ints_app, ivs_append, List.length_append, ints_len]
            exact hown9
          have hplN := HW.out.2.1.push HW.out.2.2 hgr hownI
          have hbA : Below (B0 + 3) W1 (w9.setCell ⟨B0 + 4, 0, none⟩ (.slice (some ⟨g', 0, none⟩) (pre.length + 1) cap')) := Below.setCell (below_of_grown hgr.grown (by omega) (fun q hq => by simp [Value.ownBlock] at hq; have := HW.out.2.2; omega)) (by show B0 + 3 ≤ B0 + 4; omega) _
          have hb2 : Below B0 wr (w9.setCell ⟨B0 + 4, 0, none⟩ (.slice (some ⟨g', 0, none⟩) (pre.length + 1) cap')) := (HB1.out.mono (by omega)).trans (hbA.mono (by omega))
          have HN := Lib.hid (show _ ∧ _ ∧ _ from ⟨hplN, JJ.out.hI s1 wr _ HP.out.2.1 hb2, HP.out.2.2.2.trans (hb2.mono hB)⟩)
          clear hown9 hgr hownI hplN hbA hb2 hne c4 f4 cp
          go_wp2_with fail
          refine (IH.out (pre ++ [k]) s1 _ (by have := HQ.out.2.2; simp; omega) (fun y hy => ?_) (fun o ho => ?_) HN.out.2.1 HN.out.1 HN.out.2.2).mono ?_
          · rcases List.mem_append.1 hy with h | h
            · exact HQ.out.1 y h
            · simp at h; omega
          · exact HQ.out.2.1 o (List.mem_flatMap.2 ⟨k, List.mem_range.2 hkn, by rw [if_pos HOK.out]; exact ho⟩)
          rintro e W2 (⟨s2, hrun2, rfl, hpl2, hinv2, hbl2⟩ | ⟨s2, hrun2, rfl, hfin2, hbl2⟩)
          · have hrunN : run st (upto n (okB n sa ra sb rb) d pre (k + 1)) s = (s2, true) := by rw [upto_yes HOK.out, run_on HP.out.1]; exact hrun2
            obtain ⟨g2, cap2, c4, f4, hown3, hg3⟩ := hpl2.cell
            have hcap : pre.length ≤ cap2 := by
              rcases hown3.2 with ⟨h', _⟩ | ⟨g', cap', cur, hv, hb, hh, hc1, _⟩
              · simp at h'
              · simp only [Value.slice.injEq] at hv
                have := hv.2.2
                rw [ints_len] at hc1
                simp at hc1; omega
            have hpl3 := hpl2.pop c4
            have z2 := hpl2.z
            have hbA : Below (B0 + 3) W2 (W2.setCell ⟨B0 + 4, 0, none⟩ (.slice (some ⟨g2, 0, none⟩) pre.length cap2)) := Below.setCell (Below.refl _ _) (by show B0 + 3 ≤ B0 + 4; omega) _
            have R : Hid (Lp st Inv n sa ra sb rb ft cs B B0 w0 d pre s (k + 1) (W2.setCell ⟨B0 + 4, 0, none⟩ (.slice (some ⟨g2, 0, none⟩) pre.length cap2))) :=
              ⟨s2, hrunN, JJ.out.hI s2 W2 _ hinv2 (hbA.mono (by omega)), hpl3, hbl2.trans (hbA.mono (by omega))⟩
            rw [show (pre ++ [k]).length = pre.length + 1 from by simp] at c4
            clear hrun2 hrunN hpl2 hinv2 hbl2 hown3 hg3 hpl3 hbA d4 d5 e4
            go_wp2
            go_roundw
            case rel => exact ⟨k + 1, by omega, by go_num, R.out⟩
            case measure => simp [intOf]; omega
          · have R : Hid (Done st Inv Fin B w0 (ords n (okB n sa ra sb rb) (d + 1) pre) s (Pl n sa ra sb rb ft cs B0 pre) (.returned (.bool false)) W2) := by
              obtain ⟨m, hm⟩ := upto_part n (okB n sa ra sb rb) d pre (k := k + 1) (by omega)
              refine .inr ⟨s2, ?_, rfl, hfin2, hbl2⟩
              rw [hm]
              refine run_stop ?_ m
              rw [upto_yes HOK.out, run_on HP.out.1]; exact hrun2
            clear hrun2 hfin2 hbl2 d4 d5 e4
            go_wp2
            go_ret
            exact R.out
    · obtain rfl : n = k := by omega
      have R : Hid (Done st Inv Fin B w0 (ords n (okB n sa ra sb rb) (d + 1) pre) s (Pl n sa ra sb rb ft cs B0 pre) (.returned (.bool true)) wr) := .inl ⟨s1, by rw [← upto_full]; exact HP.out.1, rfl, HP.out.2.2.1, HP.out.2.1, HP.out.2.2.2⟩
      go_wp2
      go_ret
      exact R.out
theorem place_any (J : Job st Inv Fin n sa ra sb rb ft cs B B0 w0) : ∀ d, Goes st Inv Fin n sa ra sb rb ft cs B B0 w0 d
  | 0 => place_zero J
  | d + 1 => place_succ J (place_any J d)
end Go.Proofs.YtpcnoiigbmiejaaGreatDoor.each
