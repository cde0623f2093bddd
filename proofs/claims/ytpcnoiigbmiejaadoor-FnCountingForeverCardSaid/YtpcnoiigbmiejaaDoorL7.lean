/- The drawing of two structures and pebbles on them: l7Some. -/
import Derived.Test.YtpcnoiigbmiejaaDoorPair
import Derived.Test.YtpcnoiigbmiejaaDoorPk1
import Derived.Test.YtpcnoiigbmiejaaDoorPkD
import Derived.Test.YtpcnoiigbmiejaaDoorTri
namespace Go.Proofs.YtpcnoiigbmiejaaDoor.l7s
set_option linter.unusedVariables false
set_option linter.unusedSimpArgs false
open Go.ChangeShapes Go.WideShapes Go.ChangeAt Go.RowKit
open Go.Proofs.YtpcnoiigbmiejaaDoor.lib Go.Proofs.YtpcnoiigbmiejaaDoor.st Go.Proofs.YtpcnoiigbmiejaaDoor.flow Go.Proofs.YtpcnoiigbmiejaaDoor.chain Go.Proofs.YtpcnoiigbmiejaaDoor.draw Go.Proofs.YtpcnoiigbmiejaaDoor.shuf Go.Proofs.YtpcnoiigbmiejaaDoor.pair Go.Proofs.YtpcnoiigbmiejaaDoor.part Go.Proofs.YtpcnoiigbmiejaaDoor.fits Go.Proofs.YtpcnoiigbmiejaaDoor.make

/-- no word on the numbers themselves -/
def Nearly (l : List Int) : Prop := l = l
theorem Nearly.any (l : List Int) : Nearly l := rfl
/-- what l7Some leaves -/
def DrawnL4 (w : World) (R : Nat) (ao : Option Addr) (len cap P : Nat) (e : Ending) (w' : World) : Prop :=
  ∃ (n : Int) (s r : ByteArray) (va : Value) (la : List Int) (m : Int) (t q : ByteArray) (vb : Value) (lb : List Int) (p : Nat), e = .returned (.tuple #[.agg #[.int .i64 n, .string s, .string r], va, .agg #[.int .i64 m, .string t, .string q], vb]) ∧
    ((Lit.int .i64 n).wf = true ∧ s.size ≤ 100 ∧ r.size ≤ 100) ∧ ((Lit.int .i64 m).wf = true ∧ t.size ≤ 100 ∧ q.size ≤ 100) ∧ (la.length ≤ 100 ∧ Nearly la) ∧ (lb.length ≤ 100 ∧ Nearly lb) ∧ OwnI 3 w' w.heap.size va la ∧ OwnI 3 w' w.heap.size vb lb ∧ Rd w' R ao len cap p ∧ p ≤ P ∧ w.grownBy w' (some R)
/-- what is known between the statements -/
structure St4 (w : World) (R : Nat) (ao : Option Addr) (len cap P HC HD : Nat) (n : Int) (s r : ByteArray) (m : Int) (t q : ByteArray) (BA : Nat) (va : Value) (la : List Int) (BB : Nat) (vb : Value) (lb : List Int) (p : Nat) (wx : World) : Prop where
  oa : OwnI 3 wx BA va la
  ob : OwnI 3 wx BB vb lb
  la : la.length ≤ 40 ∧ Nearly la
  lb : lb.length ≤ 40 ∧ Nearly lb
  ap : Apart va vb
  rd : Rd wx R ao len cap p
  p : p ≤ P
  g : w.grownBy wx (some R)
  ba : w.heap.size ≤ BA ∧ R < BA ∧ BA ≤ wx.heap.size ∧ HD < BA
  bb : BA ≤ BB ∧ BB ≤ wx.heap.size
  h : R < HC ∧ w.heap.size + 1 < HC ∧ HC < HD ∧ R < w.heap.size
  a : Box 24 wx w.heap.size 0 ⟨#[]⟩ ⟨#[]⟩
  b : Box 24 wx (w.heap.size + 1) 0 ⟨#[]⟩ ⟨#[]⟩
  c : Box 24 wx HC n s r
  d : Box 24 wx HD m t q
section
variable {w : World} {R : Nat} {ao : Option Addr} {len cap P HC HD : Nat} {n : Int} {s r : ByteArray} {m : Int} {t q : ByteArray} {BA : Nat} {va : Value} {la : List Int} {BB : Nat} {vb : Value} {lb : List Int} {p : Nat} {wx : World}
/-- a draw -/
theorem St4.draw (h : St4 w R ao len cap P HC HD n s r m t q BA va la BB vb lb p wx) {w' : World} {p' : Nat} (hrd : Rd w' R ao len cap p') (hp : p' ≤ P) (hg : wx.grownBy w' (some R)) : St4 w R ao len cap P HC HD n s r m t q BA va la BB vb lb p' w' := by
  have hb := h.ba
  have hh := h.h
  have hz := hg.size
  have hbb := h.bb
  exact ⟨ownKept h.oa hg hb.2.1, ownKept h.ob hg (by omega), h.la, h.lb, h.ap, hrd, hp, grown_trans h.g hg, ⟨hb.1, hb.2.1, by omega, hb.2.2.2⟩, ⟨h.bb.1, by omega⟩, hh, Box.kept (row := some R) h.a hg (by simp; omega), Box.kept (row := some R) h.b hg (by simp; omega), Box.kept (row := some R) h.c hg (by simp; omega), Box.kept (row := some R) h.d hg (by simp; omega)⟩
theorem grown_over {w wx w' : World} {R C : Nat} (hg : w.grownBy wx (some R)) (hb : Below C wx w') (hC : w.heap.size ≤ C) : w.grownBy w' (some R) :=
  ⟨hb.os.trans hg.os, hb.tape.trans hg.tape, hb.output.trans hg.output, Nat.le_trans hg.size hb.size, fun k hk hne => (hb.block k (by omega)).trans (hg.block k hk hne)⟩
/-- a call that writes nothing old -/
theorem St4.calls (h : St4 w R ao len cap P HC HD n s r m t q BA va la BB vb lb p wx) {w' : World} (hb : Below wx.heap.size wx w') : St4 w R ao len cap P HC HD n s r m t q BA va la BB vb lb p w' :=
  h.draw (rd_below h.rd hb h.rd.lt) h.p (grown_of_below hb)
/-- the second list grows -/
theorem St4.grewB (h : St4 w R ao len cap P HC HD n s r m t q BA va la BB vb lb p wx) {w' : World} {vb' : Value} {lb' : List Int} (hg : Grew wx w' vb vb') (ho : OwnI 3 w' BB vb' lb') (hl : lb'.length ≤ 40 ∧ Nearly lb') : St4 w R ao len cap P HC HD n s r m t q BA va la BB vb' lb' p w' := by
  have hb := h.ba
  have hh := h.h
  have hbb := h.bb
  have hbel : Below BB wx w' := hg.below h.ob h.bb.2
  have hz := hbel.size
  obtain ⟨k1, k2⟩ := hg.keep h.oa h.ap.symm
  exact ⟨k1, ho, h.la, hl, k2.symm, rd_below h.rd hbel (by omega), h.p, grown_over h.g hbel (by omega), ⟨hb.1, hb.2.1, by omega, hb.2.2.2⟩, ⟨hbb.1, by omega⟩, hh, h.a.below hbel (by omega), h.b.below hbel (by omega), h.c.below hbel (by omega), h.d.below hbel (by omega)⟩
/-- the first list grows -/
theorem St4.grewA (h : St4 w R ao len cap P HC HD n s r m t q BA va la BB vb lb p wx) {w' : World} {va' : Value} {la' : List Int} (hg : Grew wx w' va va') (ho : OwnI 3 w' BA va' la') (hl : la'.length ≤ 40 ∧ Nearly la') : St4 w R ao len cap P HC HD n s r m t q BA va' la' BB vb lb p w' := by
  have hb := h.ba
  have hh := h.h
  have hbb := h.bb
  have hbel : Below BA wx w' := hg.below h.oa hb.2.2.1
  have hz := hbel.size
  obtain ⟨k1, k2⟩ := hg.keep h.ob h.ap
  exact ⟨ho, k1, hl, h.lb, k2, rd_below h.rd hbel (by omega), h.p, grown_over h.g hbel (by omega), ⟨hb.1, hb.2.1, by omega, hb.2.2.2⟩, ⟨hbb.1, by omega⟩, hh, h.a.below hbel (by omega), h.b.below hbel (by omega), h.c.below hbel (by omega), h.d.below hbel (by omega)⟩
/-- the first structure anew -/
theorem St4.setC (h : St4 w R ao len cap P HC HD n s r m t q BA va la BB vb lb p wx) (n' : Int) (s' r' : ByteArray) : St4 w R ao len cap P HC HD n' s' r' m t q BA va la BB vb lb p (((wx.setCell ⟨HC, 0, none⟩ (.int .i64 n')).setCell ⟨HC, 1, none⟩ (.string s')).setCell ⟨HC, 2, none⟩ (.string r')) := by
  have hb := h.ba
  have hh := h.h
  have hbb := h.bb
  have g1 : ∀ (W : World) (o : Nat) (u : Value), W.grownBy (W.setCell ⟨HC, o, none⟩ u) (some HC) := fun W o u => grown_setCell W HC o u
  have hg : wx.grownBy (((wx.setCell ⟨HC, 0, none⟩ (.int .i64 n')).setCell ⟨HC, 1, none⟩ (.string s')).setCell ⟨HC, 2, none⟩ (.string r')) (some HC) := grown_trans (grown_trans (g1 _ _ _) (g1 _ _ _)) (g1 _ _ _)
  have hz := hg.size
  exact ⟨ownKept h.oa hg (by omega), ownKept h.ob hg (by omega), h.la, h.lb, h.ap, rd_sets h.rd (by omega), h.p, grown_sets h.g (by omega), ⟨hb.1, hb.2.1, by omega, hb.2.2.2⟩, ⟨hbb.1, by omega⟩, hh, box_others h.a (by omega), box_others h.b (by omega), ((Box.set0 h.c n').set1 s').set2 r', box_others h.d (by omega)⟩
end
theorem spot {w : World} {ao : Option Addr} {n cap : Nat} {l : List Int} (h : Reads w (.slice ao n cap) l) (hn : n = l.length) (h1 : 1 ≤ n) : ∃ b off, ao = some ⟨b, off, none⟩ ∧ b < w.heap.size ∧ ∀ i, i < n → w.cell? ⟨b, off + i, none⟩ = some (.int .i64 (l.getD i 0)) := by
  obtain ⟨ao', c', hv', hc', _⟩ := h
  simp only [Value.slice.injEq] at hv'
  rcases hc' with h | ⟨b, off, he, hc⟩
  · rw [h] at hn; simp at hn; omega
  · exact ⟨b, off, hv'.1.trans he, World.block_lt_of_cell? w _ (hc 0 (by omega)), fun i hi => hc i (by omega)⟩
theorem own_sets {T : TypeId} {w : World} {B b : Nat} {v : Value} {l : List Int} {u0 u1 u2 : Value} (h : OwnI T w B v l) (hb : b < B) : OwnI T (((w.setCell ⟨b, 0, none⟩ u0).setCell ⟨b, 1, none⟩ u1).setCell ⟨b, 2, none⟩ u2) B v l :=
  ownKept (ownKept (ownKept h (grown_setCell w b 0 u0) hb) (grown_setCell _ b 1 u1) hb) (grown_setCell _ b 2 u2) hb
/-- what is known before there are lists -/
structure S7 (w : World) (R : Nat) (ao : Option Addr) (len cap P HC HD : Nat) (n : Int) (s r : ByteArray) (m : Int) (t q : ByteArray) (p : Nat) (wx : World) : Prop where
  rd : Rd wx R ao len cap p
  p : p ≤ P
  g : w.grownBy wx (some R)
  h : R < HC ∧ w.heap.size + 1 < HC ∧ HC < HD ∧ R < w.heap.size
  a : Box 24 wx w.heap.size 0 ⟨#[]⟩ ⟨#[]⟩
  b : Box 24 wx (w.heap.size + 1) 0 ⟨#[]⟩ ⟨#[]⟩
  c : Box 24 wx HC n s r
  d : Box 24 wx HD m t q
section
variable {w : World} {R : Nat} {ao : Option Addr} {len cap P HC HD : Nat} {n : Int} {s r : ByteArray} {m : Int} {t q : ByteArray} {p : Nat} {wx : World}
theorem S7.calls (h : S7 w R ao len cap P HC HD n s r m t q p wx) {w' : World} (hb : Below wx.heap.size wx w') : S7 w R ao len cap P HC HD n s r m t q p w' :=
  ⟨rd_below h.rd hb h.rd.lt, h.p, grown_trans h.g (grown_of_below hb), h.h, h.a.below hb h.a.lt, h.b.below hb h.b.lt, h.c.below hb h.c.lt, h.d.below hb h.d.lt⟩
theorem S7.setC (h : S7 w R ao len cap P HC HD n s r m t q p wx) (n' : Int) (s' r' : ByteArray) : S7 w R ao len cap P HC HD n' s' r' m t q p (((wx.setCell ⟨HC, 0, none⟩ (.int .i64 n')).setCell ⟨HC, 1, none⟩ (.string s')).setCell ⟨HC, 2, none⟩ (.string r')) := by
  have hh := h.h
  exact ⟨rd_sets h.rd (by omega), h.p, grown_sets h.g (by omega), hh, box_others h.a (by omega), box_others h.b (by omega), ((Box.set0 h.c n').set1 s').set2 r', box_others h.d (by omega)⟩
theorem S7.setD (h : S7 w R ao len cap P HC HD n s r m t q p wx) (n' : Int) (s' r' : ByteArray) : S7 w R ao len cap P HC HD n s r n' s' r' p (((wx.setCell ⟨HD, 0, none⟩ (.int .i64 n')).setCell ⟨HD, 1, none⟩ (.string s')).setCell ⟨HD, 2, none⟩ (.string r')) := by
  have hh := h.h
  exact ⟨rd_sets h.rd (by omega), h.p, grown_sets h.g (by omega), hh, box_others h.a (by omega), box_others h.b (by omega), box_others h.c (by omega), ((Box.set0 h.d n').set1 s').set2 r'⟩
/-- the lists begin -/
theorem S7.start (h : S7 w R ao len cap P HC HD n s r m t q p wx) {H0 : Nat} (hH : H0 = wx.heap.size) : St4 w R ao len cap P HC HD n s r m t q H0 (.slice (some ⟨H0, 0, none⟩) 0 0) [] (H0 + 1) (.slice (some ⟨H0 + 1, 0, none⟩) 0 0) [] p ((wx.alloc (.cells #[] 3)).alloc (.cells #[] 3)) := by
  have hb : Below wx.heap.size wx ((wx.alloc (.cells #[] 3)).alloc (.cells #[] 3)) := ((Below.refl _ _).alloc (Nat.le_refl _) _).alloc (by simp) _
  have h2 := h.calls hb
  have hh := h.h
  have hd := h.d.lt
  have hz : ((wx.alloc (.cells #[] 3)).alloc (.cells #[] 3)).heap.size = H0 + 2 := by simp [hH]
  refine ⟨?_, ?_, ⟨by simp, Nearly.any _⟩, ⟨by simp, Nearly.any _⟩, fun k h1 h3 => ?_, h2.rd, h2.p, h2.g, ⟨by omega, by omega, by omega, by omega⟩, ⟨by omega, by omega⟩, hh, h2.a, h2.b, h2.c, h2.d⟩
  · have h5 : OwnI 3 (wx.alloc (.cells #[] 3)) H0 (.slice (some ⟨H0, 0, none⟩) 0 0) [] := by rw [hH]; exact World.ownsRow_made wx #[] 0 (Nat.le_refl _) (by decide) rfl
    exact h5.below ((Below.refl _ _).alloc (Nat.le_refl _) _) (Nat.le_refl _)
  · have h5 := World.ownsRow_made (e := 3) (wx.alloc (.cells #[] 3)) #[] 0 (base := H0 + 1) (by simp [hH]) (by decide) rfl (size := 1)
    rw [show (wx.alloc (.cells #[] 3)).heap.size = H0 + 1 by simp [hH]] at h5
    exact h5
  · simp [Value.ownBlock] at h1 h3
    omega
end
section
variable {w : World} {R : Nat} {ao : Option Addr} {len cap P HC HD : Nat} {n : Int} {s r : ByteArray} {m : Int} {t q : ByteArray} {BA : Nat} {g k c : Nat} {la : List Int} {BB : Nat} {vb : Value} {lb : List Int} {p : Nat} {wx : World}
/-- the first list's first number anew -/
theorem St4.setA (h : St4 w R ao len cap P HC HD n s r m t q BA (.slice (some ⟨g, 0, none⟩) k c) la BB vb lb p wx) (x : Int) : St4 w R ao len cap P HC HD n s r m t q BA (.slice (some ⟨g, 0, none⟩) k c) (la.set 0 x) BB vb lb p (wx.setCell ⟨g, 0, none⟩ (.int .i64 x)) := by
  have hb := h.ba
  have hg := h.oa.ge
  have hbb := h.bb
  have hbel : Below BA wx (wx.setCell ⟨g, 0, none⟩ (.int .i64 x)) := (Below.refl BA wx).setCell (by exact hg.1) _
  have hz := hbel.size
  have hh := h.h
  exact ⟨h.oa.set 0 x, h.ob.keepMark (v2 := .slice (some ⟨g, 0, none⟩) k c) (h.oa.setGrown 0 x) h.ap.symm, ⟨by rw [List.length_set]; exact h.la.1, Nearly.any _⟩, h.lb, h.ap, rd_below h.rd hbel (by omega), h.p, grown_over h.g hbel (by omega), ⟨hb.1, hb.2.1, by omega, hb.2.2.2⟩, ⟨hbb.1, by omega⟩, hh, h.a.below hbel (by omega), h.b.below hbel (by omega), h.c.below hbel (by omega), h.d.below hbel (by omega)⟩
end
theorem empty_at (w : World) : OwnI 3 (w.alloc (.cells #[] 3)) w.heap.size (.slice (some ⟨w.heap.size, 0, none⟩) 0 0) [] := World.ownsRow_made w #[] 0 (Nat.le_refl _) (by decide) rfl
theorem reads_four (W : World) : Reads (W.alloc (.cells #[.int .i64 0, .int .i64 1, .int .i64 2, .int .i64 3] 3)) (.slice (some ⟨W.heap.size, 0, none⟩) 4 4) (ints [0, 1, 2, 3]) := by
  refine ⟨_, _, rfl, .inr ⟨_, 0, rfl, fun i hi => ?_⟩, fun h => by cases h⟩
  have h := heap_alloc_new W (.cells #[.int .i64 0, .int .i64 1, .int .i64 2, .int .i64 3] 3)
  rw [Nat.zero_add, cell_of_row _ _ i _ _ (0, 0) h]
  match i, hi with
  | 0, _ => rfl
  | 1, _ => rfl
  | 2, _ => rfl
  | 3, _ => rfl
/-- the first four elements -/
theorem first_four (N : Nat) (s r : ByteArray) (W : World) (h4 : 4 < N) (hN : N ≤ 8) (hs : s.size = N) (hr : r.size = N * N) :
    Calls Tryd.prog 96 #[.agg #[.int .i64 N, .string s, .string r], .slice (some ⟨W.heap.size, 0, none⟩) 4 4] (W.alloc (.cells #[.int .i64 0, .int .i64 1, .int .i64 2, .int .i64 3] 3)) fun e w' => ∃ (t q : ByteArray), e = .returned (.agg #[.int .i64 ((4 : Nat) : Int), .string t, .string q]) ∧ t.size = 4 ∧ q.size = 4 * 4 ∧ Below W.heap.size W w' := by
  refine (part.l1Part_any N s r [0, 1, 2, 3] _ _ (reads_four W) (fun y hy => ?_) (by decide) hs hr hN).mono ?_
  · simp only [List.mem_cons, List.not_mem_nil, or_false] at hy
    omega
  · rintro e w' ⟨rfl, hbl⟩
    exact ⟨_, _, rfl, bS_size _ _, bR_size _ _ _, ((Below.refl _ _).alloc (Nat.le_refl _) _).trans (hbl.mono (by simp))⟩

set_option maxHeartbeats 12800000 in
set_option maxRecDepth 100000 in
theorem l7Some_any (R : Nat) (ao : Option Addr) (len cap p : Nat) (w : World) (h : Rd w R ao len cap p) (hp : p ≤ 40000000) :
    Calls Tryd.prog 62 #[.pointer (some ⟨R, 0, none⟩)] w (DrawnL4 w R ao len cap (p + 2000)) := by
  have hRl := h.lt
  obtain ⟨W0, hW0⟩ : ∃ QZ, QZ = ((w.alloc (.cells #[.int .i64 0, .string ⟨#[]⟩, .string ⟨#[]⟩] 24)).alloc (.cells #[.int .i64 0, .string ⟨#[]⟩, .string ⟨#[]⟩] 24)) := ⟨_, rfl⟩
  have RD_0 : Hid (Rd W0 R ao len cap p) := by rw [hW0]; exact h.alloc _ |>.alloc _
  have GR_0 : Hid (w.grownBy W0 (some R)) := by rw [hW0]; exact (grown_alloc (World.grownBy_alloc w _ _) _)
  have BA_0 : Hid (Box 24 W0 (w.heap.size) 0 ⟨#[]⟩ ⟨#[]⟩) := by rw [hW0]; exact (Box.new 24 w w.heap.size rfl 0 ⟨#[]⟩ ⟨#[]⟩).below ((Below.refl (w.heap.size + 1) _).alloc (by simp) _) (by omega)
  have BB_0 : Hid (Box 24 W0 (w.heap.size + 1) 0 ⟨#[]⟩ ⟨#[]⟩) := by rw [hW0]; exact Box.new 24 _ (w.heap.size + 1) (by simp) 0 ⟨#[]⟩ ⟨#[]⟩
  clear h
  go_enter Tryd.func62, Tryd.ntmps62
  go_wp2_with fail
  rw [← hW0]
  clear hW0
  go_wp2_with fail
  refine (l1Pair_any R ao len cap p _ RD_0.out (by omega)).mono ?_
  rintro e W1 ⟨N, s, r, M, t, q, p1, rfl, ⟨hN1, hN2, hs, hr⟩, ⟨hM1, hM2, ht, hq⟩, hrd, hp1, hg⟩
  have RD_1 := Lib.hid hrd
  have GR_1 := Lib.hid (grown_trans GR_0.out hg)
  have BA_1 := Lib.hid (Box.kept (row := some R) BA_0.out hg (by simp; omega))
  have BB_1 := Lib.hid (Box.kept (row := some R) BB_0.out hg (by simp; omega))
  clear hrd hg
  clear RD_0 GR_0 BA_0 BB_0
  obtain ⟨HC, hHC⟩ : ∃ QZ, QZ = W1.heap.size := ⟨_, rfl⟩
  have hlC : (w.heap.size + 1) < HC := by rw [hHC]; exact BB_1.out.lt
  obtain ⟨W2, hW2⟩ : ∃ QZ, QZ = W1.alloc (.cells #[.int .i64 N, .string s, .string r] 24) := ⟨_, rfl⟩
  have RD_2 : Hid (Rd W2 R ao len cap p1) := by rw [hW2]; exact RD_1.out.alloc _
  have GR_2 : Hid (w.grownBy W2 (some R)) := by rw [hW2]; exact grown_alloc GR_1.out _
  have BA_2 : Hid (Box 24 W2 (w.heap.size) 0 ⟨#[]⟩ ⟨#[]⟩) := by rw [hW2]; exact BA_1.out.below ((Below.refl W1.heap.size W1).alloc (Nat.le_refl _) _) BA_1.out.lt
  have BB_2 : Hid (Box 24 W2 (w.heap.size + 1) 0 ⟨#[]⟩ ⟨#[]⟩) := by rw [hW2]; exact BB_1.out.below ((Below.refl W1.heap.size W1).alloc (Nat.le_refl _) _) BB_1.out.lt
  have BC_2 : Hid (Box 24 W2 HC N s r) := by rw [hW2, hHC]; exact Box.new _ _ _ rfl _ _ _
  clear RD_1 GR_1 BA_1 BB_1
  obtain ⟨HD, hHD⟩ : ∃ QZ, QZ = W2.heap.size := ⟨_, rfl⟩
  have hlD : HC < HD := by rw [hHD]; exact BC_2.out.lt
  obtain ⟨W3, hW3⟩ : ∃ QZ, QZ = W2.alloc (.cells #[.int .i64 M, .string t, .string q] 24) := ⟨_, rfl⟩
  have RD_3 : Hid (Rd W3 R ao len cap p1) := by rw [hW3]; exact RD_2.out.alloc _
  have GR_3 : Hid (w.grownBy W3 (some R)) := by rw [hW3]; exact grown_alloc GR_2.out _
  have BA_3 : Hid (Box 24 W3 (w.heap.size) 0 ⟨#[]⟩ ⟨#[]⟩) := by rw [hW3]; exact BA_2.out.below ((Below.refl W2.heap.size W2).alloc (Nat.le_refl _) _) BA_2.out.lt
  have BB_3 : Hid (Box 24 W3 (w.heap.size + 1) 0 ⟨#[]⟩ ⟨#[]⟩) := by rw [hW3]; exact BB_2.out.below ((Below.refl W2.heap.size W2).alloc (Nat.le_refl _) _) BB_2.out.lt
  have BC_3 : Hid (Box 24 W3 HC N s r) := by rw [hW3]; exact BC_2.out.below ((Below.refl W2.heap.size W2).alloc (Nat.le_refl _) _) BC_2.out.lt
  have BD_3 : Hid (Box 24 W3 HD M t q) := by rw [hW3, hHD]; exact Box.new _ _ _ rfl _ _ _
  clear RD_2 GR_2 BA_2 BB_2 BC_2
  have hHD2 : HD = HC + 1 := by rw [hHD, hW2, World.size_alloc, ← hHC]
  clear hHD
  have HS0 : Hid (S7 w R ao len cap (p + 2000) HC HD N s r M t q p1 W3) := ⟨RD_3.out, by omega, GR_3.out, ⟨by omega, by omega, hlD, hRl⟩, BA_3.out, BB_3.out, BC_3.out, BD_3.out⟩
  go_upto_region 2 with (fail)
  rw [← hW2]
  rw [← hHC]
  rw [← hW3]
  rw [← hHD2]
  clear hW2 hHC hW3 hHD2
  clear RD_3 GR_3 BA_3 BB_3 BC_3 BD_3
  obtain ⟨c0, c1, c2⟩ := Box.c HS0.out.c
  go_upto_if 18 with (fail)
  go_cut [18] from 19 to 21 (fun _ wx => ∃ (N2 : Nat) (sx rx : ByteArray), (1 ≤ N2 ∧ N2 ≤ 4 ∧ sx.size = N2 ∧ rx.size = N2 * N2) ∧ S7 w R ao len cap (p + 2000) HC HD N2 sx rx M t q p1 wx)
  case first =>
    by_cases h4 : 4 < N
    · have t4 : decide ((4 : Int) < (N : Int)) = true := by simp; omega
      have FO := Lib.hid (first_four N s r W3 h4 hN2 hs hr)
      have t5 : decide (4 < N) = true := by simp; omega
      have t6 : (4 : Int) < (N : Int) := by omega
      go_wp2_with fail
      clear c0 c1 c2 t4 t5 t6 h4
      refine FO.out.mono ?_
      rintro e Y1 ⟨sx, rx, rfl, hs2, hr2, hb⟩
      have HY := Lib.hid (HS0.out.calls hb)
      obtain ⟨z0, z1, z2⟩ := Box.c HY.out.c
      have f0 := Box.free HY.out.c 0
      have f1 := Box.free HY.out.c 1
      have f2 := Box.free HY.out.c 2
      have HR := Lib.hid (HY.out.setC ((4 : Nat) : Int) sx rx)
      clear hb HY FO
      go_wp2
      go_meet
      exact ⟨4, sx, rx, ⟨by decide, by decide, hs2, hr2⟩, HR.out⟩
    · have t4 : decide ((4 : Int) < (N : Int)) = false := by simp; omega
      go_wp2
      go_meet
      exact ⟨N, s, r, ⟨hN1, by omega, hs, hr⟩, HS0.out⟩
  case rest =>
    obtain ⟨N2, sx, rx, ⟨hN1', hN2', hs', hr'⟩, hst⟩ := hcut
    have HS1 := Lib.hid hst
    clear hst c0 c1 c2 HS0
    obtain ⟨c0, c1, c2⟩ := Box.c HS1.out.d
    go_upto_if 24 with (fail)
    go_cut [24] from 25 to 27 (fun _ wx => ∃ (M2 : Nat) (tx qx : ByteArray), (1 ≤ M2 ∧ M2 ≤ 4 ∧ tx.size = M2 ∧ qx.size = M2 * M2) ∧ S7 w R ao len cap (p + 2000) HC HD N2 sx rx M2 tx qx p1 wx)
    case first =>
      by_cases h4 : 4 < M
      · have t4 : decide ((4 : Int) < (M : Int)) = true := by simp; omega
        have FO := Lib.hid (first_four M t q wc h4 hM2 ht hq)
        have t5 : decide (4 < M) = true := by simp; omega
        have t6 : (4 : Int) < (M : Int) := by omega
        go_wp2_with fail
        clear c0 c1 c2 t4 t5 t6 h4
        refine FO.out.mono ?_
        rintro e Y1 ⟨t3, q3, rfl, hs2, hr2, hb⟩
        have HY := Lib.hid (HS1.out.calls hb)
        obtain ⟨z0, z1, z2⟩ := Box.c HY.out.d
        have f0 := Box.free HY.out.d 0
        have f1 := Box.free HY.out.d 1
        have f2 := Box.free HY.out.d 2
        have HR := Lib.hid (HY.out.setD ((4 : Nat) : Int) t3 q3)
        clear hb HY FO
        go_wp2
        go_meet
        exact ⟨4, t3, q3, ⟨by decide, by decide, hs2, hr2⟩, HR.out⟩
      · have t4 : decide ((4 : Int) < (M : Int)) = false := by simp; omega
        go_wp2
        go_meet
        exact ⟨M, t, q, ⟨hM1, by omega, ht, hq⟩, HS1.out⟩
    case rest =>
      obtain ⟨M2, tx, qx, ⟨hM1', hM2', ht', hq'⟩, hst⟩ := hcut
      have HS2 := Lib.hid hst
      clear hst c0 c1 c2 HS1
      rename_i wold _
      obtain ⟨H0, hH0⟩ : ∃ H0, H0 = wc.heap.size := ⟨_, rfl⟩
      obtain ⟨W6, hW6⟩ : ∃ W6, W6 = (wc.alloc (.cells #[] 3)).alloc (.cells #[] 3) := ⟨_, rfl⟩
      have ST0 : Hid (St4 w R ao len cap (p + 2000) HC HD N2 sx rx M2 tx qx H0 (.slice (some ⟨H0, 0, none⟩) 0 0) [] (H0 + 1) (.slice (some ⟨H0 + 1, 0, none⟩) 0 0) [] p1 W6) := by rw [hW6]; exact HS2.out.start hH0
      have hz6 : W6.heap.size = H0 + 2 := by rw [hW6, hH0]; simp
      clear HS2
      go_upto_region 8 with (fail)
      rw [← hW6, ← hH0]
      clear hW6 hH0
      go_wp2_with fail
      refine (num_lit R ao len cap p1 5 (H0 + 2) _ [2, 2, 1, 2, 3] W6 ST0.out.rd (by omega) rfl rfl (by decide) (by decide) hz6).mono ?_
      rintro e W7 ⟨xn, hxn, rfl, hrd, hg0⟩
      have hg := grown_trans (World.grownBy_alloc W6 _ (some R)) hg0
      obtain ⟨nn, rfl, hn1, hn3⟩ : ∃ nn : Nat, xn = nn ∧ 1 ≤ nn ∧ nn ≤ 3 := by
        simp only [List.mem_cons, List.not_mem_nil, or_false] at hxn
        rcases hxn with rfl | rfl | rfl | rfl | rfl
        · exact ⟨2, rfl, by omega, by omega⟩
        · exact ⟨2, rfl, by omega, by omega⟩
        · exact ⟨1, rfl, by omega, by omega⟩
        · exact ⟨2, rfl, by omega, by omega⟩
        · exact ⟨3, rfl, by omega, by omega⟩
      have ST1 := Lib.hid (ST0.out.draw hrd (by omega) hg)
      clear hrd hg hg0 hxn ST0 hz6
      go_wp2_with fail
      go_loopw [8, 9, 10] (fun av bv nv wr => ∃ (j p2 : Nat) (va vb : Value) (la lb : List Int), j ≤ nn ∧ nv = .int .i64 j ∧ va = av ∧ vb = bv ∧ p2 + 3 * j ≤ p1 + 20 ∧ la.length + j = nn ∧ lb.length + j = nn ∧ Hid (St4 w R ao len cap (p + 2000) HC HD N2 sx rx M2 tx qx H0 va la (H0 + 1) vb lb p2 wr)) (fun _ _ nv _ => (intOf nv).toNat)
      case atStart => exact ⟨nn, p1 + 1, _, _, [], [], Nat.le_refl _, rfl, rfl, rfl, by omega, by simp, by simp, ST1.out⟩
      case round =>
        clear ST1
        obtain ⟨j, p2, va, vb, la, lb, hj, rfl, rfl, rfl, hp2, hla, hlb, HZ⟩ := hrel
        by_cases hj0 : 0 < j
        · have tj : decide ((0 : Int) < (j : Int)) = true := by simp; omega
          have tj2 : decide (0 < j) = true := by simp; omega
          obtain ⟨j, rfl⟩ : ∃ i, j = i + 1 := ⟨j - 1, by omega⟩
          have wj : wrap64 (((j + 1 : Nat) : Int) - 1) = (j : Int) := by unfold wrap64; omega
          clear hj0
          go_wp2_with fail
          refine (pick_any R ao len cap p2 2 _ HZ.out.rd (by omega) (by omega) (by omega)).mono ?_
          rintro e W9 ⟨v, hv, rfl, hrd, hg⟩
          have HZ9 := Lib.hid (HZ.out.draw hrd (by omega) hg)
          have hla9 : la.length + 1 ≤ 3 := by omega
          have hlb9 : lb.length + 1 ≤ 3 := by omega
          clear hrd hg HZ
          by_cases hv0 : v = 0
          · have tv : ((v : Int) == 0) = true := by simp; omega
            have hbz := HZ9.out.ba.2.2.1
            clear hv0 hv
            go_wp2_with (at_builtin; refine wpList_app1 W9 rfl (.tmp 40) (.tmp 41) 32 rfl H0 3 (.int .i64 0) 8 Tryd.underlying32 sl.infoInt rfl (by decide) va _ _ (.int .i64 (-1)) rfl HZ9.out.oa W9.heap.size rfl rfl rfl (by omega) hbz ?_)
            intro gA cA W10 hown hgr
            have hown' : OwnI 3 W10 H0 (.slice (some ⟨gA, 0, none⟩) (la.length + 1) cA) (la ++ [-1]) := by unfold OwnI; rw [List.length_append, ivs_append]; exact hown
            have HZ10 := Lib.hid (HZ9.out.grewA hgr hown' ⟨by rw [List.length_append, List.length_singleton]; omega, Nearly.any _⟩)
            have hbz2 := HZ10.out.bb.2
            clear hown hown' hgr HZ9 tv hbz
            go_wp2_with (at_builtin; refine wpList_app1 W10 rfl (.tmp 43) (.tmp 44) 32 rfl (H0 + 1) 3 (.int .i64 0) 8 Tryd.underlying32 sl.infoInt rfl (by decide) vb _ _ (.int .i64 (-1)) rfl HZ10.out.ob W10.heap.size rfl rfl rfl (by omega) hbz2 ?_)
            intro gB cB W11 hown hgr
            have hown' : OwnI 3 W11 (H0 + 1) (.slice (some ⟨gB, 0, none⟩) (lb.length + 1) cB) (lb ++ [-1]) := by unfold OwnI; rw [List.length_append, ivs_append]; exact hown
            have HZ11 := Lib.hid (HZ10.out.grewB hgr hown' ⟨by rw [List.length_append, List.length_singleton]; omega, Nearly.any _⟩)
            clear hown hown' hgr HZ10 hbz2
            go_wp2
            go_roundw
            case rel => exact ⟨j, p2 + 1, _, _, _, _, by omega, by first | rfl | go_num, rfl, rfl, by omega, by rw [List.length_append, List.length_singleton]; omega, by rw [List.length_append, List.length_singleton]; omega, HZ11.out⟩
            case measure => simp [intOf] <;> omega
          · have tv : ((v : Int) == 0) = false := by simp; omega
            obtain ⟨c0, c1, c2⟩ := Box.c HZ9.out.c
            clear hv0 hv
            go_wp2_with fail
            clear c0 c1 c2 tv
            refine (pick_any R ao len cap (p2 + 1) N2 _ HZ9.out.rd (by omega) (by omega) (by omega)).mono ?_
            rintro e W10 ⟨x, hx, rfl, hrd, hg⟩
            have HZ10 := Lib.hid (HZ9.out.draw hrd (by omega) hg)
            have hbz := HZ10.out.ba.2.2.1
            clear hrd hg HZ9 hx
            go_wp2_with (at_builtin; refine wpList_app1 W10 rfl (.tmp 46) (.tmp 51) 32 rfl H0 3 (.int .i64 0) 8 Tryd.underlying32 sl.infoInt rfl (by decide) va _ _ (.int .i64 (x : Int)) rfl HZ10.out.oa W10.heap.size rfl rfl rfl (by omega) hbz ?_)
            intro gA cA W11 hown hgr
            have hown' : OwnI 3 W11 H0 (.slice (some ⟨gA, 0, none⟩) (la.length + 1) cA) (la ++ [(x : Int)]) := by unfold OwnI; rw [List.length_append, ivs_append]; exact hown
            have HZ11 := Lib.hid (HZ10.out.grewA hgr hown' ⟨by rw [List.length_append, List.length_singleton]; omega, Nearly.any _⟩)
            obtain ⟨d0, d1, d2⟩ := Box.c HZ11.out.d
            clear hown hown' hgr HZ10 hbz
            go_wp2_with fail
            clear d0 d1 d2
            refine (pick_any R ao len cap (p2 + 1 + 1) M2 _ HZ11.out.rd (by omega) (by omega) (by omega)).mono ?_
            rintro e W12 ⟨y, hy, rfl, hrd, hg⟩
            have HZ12 := Lib.hid (HZ11.out.draw hrd (by omega) hg)
            have hbz2 := HZ12.out.bb.2
            clear hrd hg HZ11 hy
            go_wp2_with (at_builtin; refine wpList_app1 W12 rfl (.tmp 53) (.tmp 58) 32 rfl (H0 + 1) 3 (.int .i64 0) 8 Tryd.underlying32 sl.infoInt rfl (by decide) vb _ _ (.int .i64 (y : Int)) rfl HZ12.out.ob W12.heap.size rfl rfl rfl (by omega) hbz2 ?_)
            intro gB cB W13 hown hgr
            have hown' : OwnI 3 W13 (H0 + 1) (.slice (some ⟨gB, 0, none⟩) (lb.length + 1) cB) (lb ++ [(y : Int)]) := by unfold OwnI; rw [List.length_append, ivs_append]; exact hown
            have HZ13 := Lib.hid (HZ12.out.grewB hgr hown' ⟨by rw [List.length_append, List.length_singleton]; omega, Nearly.any _⟩)
            clear hown hown' hgr HZ12 hbz2
            go_wp2
            go_roundw
            case rel => exact ⟨j, p2 + 1 + 1 + 1, _, _, _, _, by omega, by first | rfl | go_num, rfl, rfl, by omega, by rw [List.length_append, List.length_singleton]; omega, by rw [List.length_append, List.length_singleton]; omega, HZ13.out⟩
            case measure => simp [intOf] <;> omega
        · obtain rfl : j = 0 := by omega
          have hla2 : 1 ≤ la.length := by omega
          have hla3 : la.length ≤ 3 := by omega
          have hlb3 : lb.length ≤ 3 := by omega
          clear hla hlb
          go_wp2_with fail
          refine (pick_any R ao len cap p2 40 _ HZ.out.rd (by omega) (by omega) (by omega)).mono ?_
          rintro e W20 ⟨v3, hv3, rfl, hrd, hg⟩
          have ST20 := Lib.hid (HZ.out.draw hrd (by omega) hg)
          have hnw : (Lit.int .i64 (N2 : Int)).wf = true := small_wf N2 (by omega)
          have hNN : 1 ≤ rx.size ∧ rx.size ≤ 64 := by rw [hr']; exact ⟨Nat.mul_le_mul hN1' hN1', Nat.le_trans (Nat.mul_le_mul hN2' hN2') (by decide)⟩
          have hs100 : sx.size ≤ 100 := by omega
          have HMQ : Hid ((Lit.int .i64 (M2 : Int)).wf = true ∧ tx.size ≤ 100 ∧ qx.size ≤ 100) := by
            have h64 : M2 * M2 ≤ 4 * 4 := Nat.mul_le_mul hM2' hM2'
            exact ⟨small_wf M2 (by omega), by omega, by omega⟩
          have hR0 : R < H0 ∧ HD < H0 := ⟨ST20.out.ba.2.1, ST20.out.ba.2.2.2⟩
          have hhh := ST20.out.h
          clear hrd hg HZ
          rcases (show v3 = 0 ∨ v3 = 1 ∨ v3 = 2 ∨ v3 = 3 ∨ 4 ≤ v3 by omega) with rfl | rfl | rfl | rfl | h3
          · go_wp2_with fail
            refine (num_lit R ao len cap (p2 + 1) 3 W20.heap.size _ [-2, 8, 0] W20 ST20.out.rd (by omega) rfl rfl (by decide) (by decide) rfl).mono ?_
            rintro e W21 ⟨x, hx, rfl, hrd, hg0⟩
            have hg := grown_trans (World.grownBy_alloc W20 _ (some R)) hg0
            have ST21 := Lib.hid (ST20.out.draw hrd (by omega) hg)
            have hba := ST21.out.ba.2.2.1
            clear hx hrd hg hg0 ST20
            go_wp2_with (at_builtin; refine wpList_app1 W21 rfl (.tmp 64) (.tmp 68) 32 rfl H0 3 (.int .i64 0) 8 Tryd.underlying32 sl.infoInt rfl (by decide) va _ _ (.int .i64 x) rfl ST21.out.oa W21.heap.size rfl rfl rfl (by omega) hba ?_)
            intro g cap' W22 hown hgr
            have hown' : OwnI 3 W22 H0 (.slice (some ⟨g, 0, none⟩) (la.length + 1) cap') (la ++ [x]) := by unfold OwnI; rw [List.length_append, ivs_append]; exact hown
            have ST22 := Lib.hid (ST21.out.grewA hgr hown' ⟨by rw [List.length_append, List.length_singleton]; omega, Nearly.any _⟩)
            clear hown hown' hgr ST21
            have RD_50 := Lib.hid ST22.out.rd
            have GR_50 := Lib.hid ST22.out.g
            have BA_50 := Lib.hid ST22.out.a
            have BB_50 := Lib.hid ST22.out.b
            have BC_50 := Lib.hid ST22.out.c
            have BD_50 := Lib.hid ST22.out.d
            have OA_50 := Lib.hid ST22.out.oa
            have OB_50 := Lib.hid ST22.out.ob
            have LAB := Lib.hid (show _ ∧ _ ∧ _ from ⟨ST22.out.la, ST22.out.lb, ST22.out.p⟩)
            have hh1 := ST22.out.h
            have hh2 := ST22.out.ba
            have hh3 := ST22.out.bb
            clear ST22
            have q0 : ∀ QQ : Wd (fun Q => Q.cell? ⟨HC, 0, none⟩ = some (.int .i64 N2) ∧ Q.cell? ⟨HC, 1, none⟩ = some (.string sx) ∧ Q.cell? ⟨HC, 2, none⟩ = some (.string rx) ∧ Q.cell? ⟨HD, 0, none⟩ = some (.int .i64 M2) ∧ Q.cell? ⟨HD, 1, none⟩ = some (.string tx) ∧ Q.cell? ⟨HD, 2, none⟩ = some (.string qx)), QQ.w.cell? ⟨HC, 0, none⟩ = some (.int .i64 N2) := fun QQ => QQ.ok.1
            have q1 : ∀ QQ : Wd (fun Q => Q.cell? ⟨HC, 0, none⟩ = some (.int .i64 N2) ∧ Q.cell? ⟨HC, 1, none⟩ = some (.string sx) ∧ Q.cell? ⟨HC, 2, none⟩ = some (.string rx) ∧ Q.cell? ⟨HD, 0, none⟩ = some (.int .i64 M2) ∧ Q.cell? ⟨HD, 1, none⟩ = some (.string tx) ∧ Q.cell? ⟨HD, 2, none⟩ = some (.string qx)), QQ.w.cell? ⟨HC, 1, none⟩ = some (.string sx) := fun QQ => QQ.ok.2.1
            have q2 : ∀ QQ : Wd (fun Q => Q.cell? ⟨HC, 0, none⟩ = some (.int .i64 N2) ∧ Q.cell? ⟨HC, 1, none⟩ = some (.string sx) ∧ Q.cell? ⟨HC, 2, none⟩ = some (.string rx) ∧ Q.cell? ⟨HD, 0, none⟩ = some (.int .i64 M2) ∧ Q.cell? ⟨HD, 1, none⟩ = some (.string tx) ∧ Q.cell? ⟨HD, 2, none⟩ = some (.string qx)), QQ.w.cell? ⟨HC, 2, none⟩ = some (.string rx) := fun QQ => QQ.ok.2.2.1
            have q3 : ∀ QQ : Wd (fun Q => Q.cell? ⟨HC, 0, none⟩ = some (.int .i64 N2) ∧ Q.cell? ⟨HC, 1, none⟩ = some (.string sx) ∧ Q.cell? ⟨HC, 2, none⟩ = some (.string rx) ∧ Q.cell? ⟨HD, 0, none⟩ = some (.int .i64 M2) ∧ Q.cell? ⟨HD, 1, none⟩ = some (.string tx) ∧ Q.cell? ⟨HD, 2, none⟩ = some (.string qx)), QQ.w.cell? ⟨HD, 0, none⟩ = some (.int .i64 M2) := fun QQ => QQ.ok.2.2.2.1
            have q4 : ∀ QQ : Wd (fun Q => Q.cell? ⟨HC, 0, none⟩ = some (.int .i64 N2) ∧ Q.cell? ⟨HC, 1, none⟩ = some (.string sx) ∧ Q.cell? ⟨HC, 2, none⟩ = some (.string rx) ∧ Q.cell? ⟨HD, 0, none⟩ = some (.int .i64 M2) ∧ Q.cell? ⟨HD, 1, none⟩ = some (.string tx) ∧ Q.cell? ⟨HD, 2, none⟩ = some (.string qx)), QQ.w.cell? ⟨HD, 1, none⟩ = some (.string tx) := fun QQ => QQ.ok.2.2.2.2.1
            have q5 : ∀ QQ : Wd (fun Q => Q.cell? ⟨HC, 0, none⟩ = some (.int .i64 N2) ∧ Q.cell? ⟨HC, 1, none⟩ = some (.string sx) ∧ Q.cell? ⟨HC, 2, none⟩ = some (.string rx) ∧ Q.cell? ⟨HD, 0, none⟩ = some (.int .i64 M2) ∧ Q.cell? ⟨HD, 1, none⟩ = some (.string tx) ∧ Q.cell? ⟨HD, 2, none⟩ = some (.string qx)), QQ.w.cell? ⟨HD, 2, none⟩ = some (.string qx) := fun QQ => QQ.ok.2.2.2.2.2
            have hne : Nonempty (Wd (fun Q => Q.cell? ⟨HC, 0, none⟩ = some (.int .i64 N2) ∧ Q.cell? ⟨HC, 1, none⟩ = some (.string sx) ∧ Q.cell? ⟨HC, 2, none⟩ = some (.string rx) ∧ Q.cell? ⟨HD, 0, none⟩ = some (.int .i64 M2) ∧ Q.cell? ⟨HD, 1, none⟩ = some (.string tx) ∧ Q.cell? ⟨HD, 2, none⟩ = some (.string qx))) := ⟨⟨W22, ⟨(Box.c BC_50.out).1, (Box.c BC_50.out).2.1, (Box.c BC_50.out).2.2, (Box.c BD_50.out).1, (Box.c BD_50.out).2.1, (Box.c BD_50.out).2.2⟩⟩⟩
            go_wp2_with fail
            refine chain (S := (fun Q => Q.cell? ⟨HC, 0, none⟩ = some (.int .i64 N2) ∧ Q.cell? ⟨HC, 1, none⟩ = some (.string sx) ∧ Q.cell? ⟨HC, 2, none⟩ = some (.string rx) ∧ Q.cell? ⟨HD, 0, none⟩ = some (.int .i64 M2) ∧ Q.cell? ⟨HD, 1, none⟩ = some (.string tx) ∧ Q.cell? ⟨HD, 2, none⟩ = some (.string qx))) [([true, true, true, true], 4), ([false, false, false, false, false, true], 6)] [false, false, false, false, false, false, false, true] (by kernel_rfl) (by kernel_rfl) (by kernel_rfl) ⟨(Box.c BC_50.out).1, (Box.c BC_50.out).2.1, (Box.c BC_50.out).2.2, (Box.c BD_50.out).1, (Box.c BD_50.out).2.1, (Box.c BD_50.out).2.2⟩ ?_
            simp only [wpSegs, pickB, List.dropLast_cons_cons, List.dropLast_singleton, List.getLast?_cons_cons, List.getLast?_singleton, List.toList_toArray, List.getElem?_toArray, List.getElem?_cons_succ, List.getElem?_cons_zero, Option.toList_some]
            have OA_51 := Lib.hid (ownKept (R := R) OA_50.out (grown_drew (World.grownBy.refl _ _)) (by omega))
            have OB_51 := Lib.hid (ownKept (R := R) OB_50.out (grown_drew (World.grownBy.refl _ _)) (by omega))
            have RD_51 : Hid (Rd W22.drew R ao len cap (p2 + 1 + 1)) := RD_50.out.drew
            have GR_51 := Lib.hid (grown_drew GR_50.out)
            have BA_51 : Hid (Box 24 W22.drew w.heap.size 0 ⟨#[]⟩ ⟨#[]⟩) := Box.drew BA_50.out
            have BB_51 : Hid (Box 24 W22.drew (w.heap.size + 1) 0 ⟨#[]⟩ ⟨#[]⟩) := Box.drew BB_50.out
            have BC_51 : Hid (Box 24 W22.drew HC N2 sx rx) := Box.drew BC_50.out
            have BD_51 : Hid (Box 24 W22.drew HD M2 tx qx) := Box.drew BD_50.out
            clear RD_50 GR_50 BA_50 BB_50 BC_50 BD_50 OA_50 OB_50
            have BZ : Box 24 W22 w.heap.size 0 ⟨#[]⟩ ⟨#[]⟩ := BA_51.out
            obtain ⟨z0, z1, z2⟩ := Box.c BZ
            have f0 := Box.free BZ 0
            have f1 := Box.free BZ 1
            have f2 := Box.free BZ 2
            clear BZ
            repeat (go_big_quiet_step (fail))
            refine wpQuiet_nil ?_
            intro K hK
            go_wp2_with fail
            clear z0 z1 z2 f0 f1 f2
            obtain ⟨W52, hWf52⟩ : ∃ QZ, QZ = (((W22.setCell ⟨w.heap.size, 0, none⟩ (.int .i64 N2)).setCell ⟨w.heap.size, 1, none⟩ (.string sx)).setCell ⟨w.heap.size, 2, none⟩ (.string rx)).drew := ⟨_, rfl⟩
            have hW52 : W52 = (((W22.drew.setCell ⟨w.heap.size, 0, none⟩ (.int .i64 N2)).setCell ⟨w.heap.size, 1, none⟩ (.string sx)).setCell ⟨w.heap.size, 2, none⟩ (.string rx)) := hWf52
            have RD_52 : Hid (Rd W52 R ao len cap (p2 + 1 + 1)) := by rw [hW52]; exact rd_sets RD_51.out (by omega)
            have GR_52 : Hid (w.grownBy W52 (some R)) := by rw [hW52]; exact grown_sets GR_51.out (by omega)
            have BA_52 : Hid (Box 24 W52 w.heap.size N2 sx rx) := by rw [hW52]; exact ((Box.set0 BA_51.out N2).set1 sx).set2 rx
            have BB_52 : Hid (Box 24 W52 (w.heap.size + 1) 0 ⟨#[]⟩ ⟨#[]⟩) := by rw [hW52]; exact box_others BB_51.out (by omega)
            have BC_52 : Hid (Box 24 W52 HC N2 sx rx) := by rw [hW52]; exact box_others BC_51.out (by omega)
            have BD_52 : Hid (Box 24 W52 HD M2 tx qx) := by rw [hW52]; exact box_others BD_51.out (by omega)
            have OA_52 : Hid (OwnI 3 W52 H0 (.slice (some ⟨g, 0, none⟩) (la.length + 1) cap') (la ++ [x])) := by rw [hW52]; exact own_sets OA_51.out (by omega)
            have OB_52 : Hid (OwnI 3 W52 (H0 + 1) vb lb) := by rw [hW52]; exact own_sets OB_51.out (by omega)
            clear RD_51 GR_51 BA_51 BB_51 BC_51 BD_51 OA_51 OB_51
            clear hW52
            rw [← hWf52]
            clear hWf52
            refine hK _ _ ⟨(Box.c BC_52.out).1, (Box.c BC_52.out).2.1, (Box.c BC_52.out).2.2, (Box.c BD_52.out).1, (Box.c BD_52.out).2.1, (Box.c BD_52.out).2.2⟩ ?_
            clear hK K
            have BZ := BB_52.out
            obtain ⟨z0, z1, z2⟩ := Box.c BZ
            have f0 := Box.free BZ 0
            have f1 := Box.free BZ 1
            have f2 := Box.free BZ 2
            clear BZ
            repeat (go_big_quiet_step (fail))
            refine wpQuiet_nil ?_
            intro K hK
            go_wp2_with fail
            clear z0 z1 z2 f0 f1 f2
            obtain ⟨W53, hW53⟩ : ∃ QZ, QZ = (((W52.setCell ⟨w.heap.size + 1, 0, none⟩ (.int .i64 M2)).setCell ⟨w.heap.size + 1, 1, none⟩ (.string tx)).setCell ⟨w.heap.size + 1, 2, none⟩ (.string qx)) := ⟨_, rfl⟩
            have RD_53 : Hid (Rd W53 R ao len cap (p2 + 1 + 1)) := by rw [hW53]; exact rd_sets RD_52.out (by omega)
            have GR_53 : Hid (w.grownBy W53 (some R)) := by rw [hW53]; exact grown_sets GR_52.out (by omega)
            have BA_53 : Hid (Box 24 W53 w.heap.size N2 sx rx) := by rw [hW53]; exact box_others BA_52.out (by omega)
            have BB_53 : Hid (Box 24 W53 (w.heap.size + 1) M2 tx qx) := by rw [hW53]; exact ((Box.set0 BB_52.out M2).set1 tx).set2 qx
            have BC_53 : Hid (Box 24 W53 HC N2 sx rx) := by rw [hW53]; exact box_others BC_52.out (by omega)
            have BD_53 : Hid (Box 24 W53 HD M2 tx qx) := by rw [hW53]; exact box_others BD_52.out (by omega)
            have OA_53 : Hid (OwnI 3 W53 H0 (.slice (some ⟨g, 0, none⟩) (la.length + 1) cap') (la ++ [x])) := by rw [hW53]; exact own_sets OA_52.out (by omega)
            have OB_53 : Hid (OwnI 3 W53 (H0 + 1) vb lb) := by rw [hW53]; exact own_sets OB_52.out (by omega)
            clear RD_52 GR_52 BA_52 BB_52 BC_52 BD_52 OA_52 OB_52
            rw [← hW53]
            clear hW53
            refine hK _ _ ⟨(Box.c BC_53.out).1, (Box.c BC_53.out).2.1, (Box.c BC_53.out).2.2, (Box.c BD_53.out).1, (Box.c BD_53.out).2.1, (Box.c BD_53.out).2.2⟩ ?_
            clear hK K
            repeat (go_big_quiet_step (fail))
            refine wpQuiet_nil ?_
            clear q0 q1 q2 q3 q4 q5 hne
            have HF := Lib.hid (show _ ∧ _ from ⟨Box.c BA_53.out, Box.c BB_53.out⟩)
            have RES := Lib.hid (show _ ∧ _ ∧ _ ∧ _ from ⟨OA_53.out.mono (show w.heap.size ≤ H0 by omega), OB_53.out.mono (show w.heap.size ≤ H0 + 1 by omega), RD_53.out, GR_53.out⟩)
            clear RD_53 GR_53 BA_53 BB_53 BC_53 BD_53 OA_53 OB_53
            go_wp2
            exact bodyPost_ret (v := .tuple #[.agg #[.int .i64 N2, .string sx, .string rx], (.slice (some ⟨g, 0, none⟩) (la.length + 1) cap'), .agg #[.int .i64 M2, .string tx, .string qx], vb]) (by simp [results, Tryd.results62, go_sem, HF.out.1.1, HF.out.1.2.1, HF.out.1.2.2, HF.out.2.1, HF.out.2.2.1, HF.out.2.2.2]) rfl ⟨N2, sx, rx, _, (la ++ [x]), M2, tx, qx, _, lb, _, rfl, ⟨hnw, hs100, by omega⟩, HMQ.out, ⟨by have := LAB.out.1.1; omega, LAB.out.1.2⟩, ⟨by have := LAB.out.2.1.1; omega, LAB.out.2.1.2⟩, RES.out.1, RES.out.2.1, RES.out.2.2.1, LAB.out.2.2, RES.out.2.2.2⟩
          · obtain ⟨gA, cA, rfl⟩ : ∃ g c, va = .slice (some ⟨g, 0, none⟩) la.length c := by
              rcases ST20.out.oa.shape with ⟨_, h⟩ | h
              · rw [h] at hla2; simp at hla2
              · exact h
            obtain ⟨n1, hn⟩ : ∃ n1, n1 = la.length := ⟨_, rfl⟩
            rw [← hn] at ST20 ⊢
            have hn1' : 0 < n1 := by omega
            have hn2' : (0 : Int) < (n1 : Int) := by omega
            obtain ⟨z, hz⟩ : ∃ z, z = la.getD 0 0 := ⟨_, rfl⟩
            have k0 := ST20.out.oa.cell 0 (by omega)
            have f0 := ST20.out.oa.free 0
            rw [← hz] at k0
            have ST22 := Lib.hid (ST20.out.setA (wrap64 (-1 - z)))
            obtain ⟨W22, hW22⟩ : ∃ W22, W22 = W20.setCell ⟨gA, 0, none⟩ (.int .i64 (wrap64 (-1 - z))) := ⟨_, rfl⟩
            rw [← hW22] at ST22
            have HN1 := Lib.hid hn
            clear ST20 hz hn
            have RD_50 := Lib.hid ST22.out.rd
            have GR_50 := Lib.hid ST22.out.g
            have BA_50 := Lib.hid ST22.out.a
            have BB_50 := Lib.hid ST22.out.b
            have BC_50 := Lib.hid ST22.out.c
            have BD_50 := Lib.hid ST22.out.d
            have OA_50 := Lib.hid ST22.out.oa
            have OB_50 := Lib.hid ST22.out.ob
            have LAB := Lib.hid (show _ ∧ _ ∧ _ from ⟨ST22.out.la, ST22.out.lb, ST22.out.p⟩)
            have hh1 := ST22.out.h
            have hh2 := ST22.out.ba
            have hh3 := ST22.out.bb
            clear ST22
            have q0 : ∀ QQ : Wd (fun Q => Q.cell? ⟨HC, 0, none⟩ = some (.int .i64 N2) ∧ Q.cell? ⟨HC, 1, none⟩ = some (.string sx) ∧ Q.cell? ⟨HC, 2, none⟩ = some (.string rx) ∧ Q.cell? ⟨HD, 0, none⟩ = some (.int .i64 M2) ∧ Q.cell? ⟨HD, 1, none⟩ = some (.string tx) ∧ Q.cell? ⟨HD, 2, none⟩ = some (.string qx)), QQ.w.cell? ⟨HC, 0, none⟩ = some (.int .i64 N2) := fun QQ => QQ.ok.1
            have q1 : ∀ QQ : Wd (fun Q => Q.cell? ⟨HC, 0, none⟩ = some (.int .i64 N2) ∧ Q.cell? ⟨HC, 1, none⟩ = some (.string sx) ∧ Q.cell? ⟨HC, 2, none⟩ = some (.string rx) ∧ Q.cell? ⟨HD, 0, none⟩ = some (.int .i64 M2) ∧ Q.cell? ⟨HD, 1, none⟩ = some (.string tx) ∧ Q.cell? ⟨HD, 2, none⟩ = some (.string qx)), QQ.w.cell? ⟨HC, 1, none⟩ = some (.string sx) := fun QQ => QQ.ok.2.1
            have q2 : ∀ QQ : Wd (fun Q => Q.cell? ⟨HC, 0, none⟩ = some (.int .i64 N2) ∧ Q.cell? ⟨HC, 1, none⟩ = some (.string sx) ∧ Q.cell? ⟨HC, 2, none⟩ = some (.string rx) ∧ Q.cell? ⟨HD, 0, none⟩ = some (.int .i64 M2) ∧ Q.cell? ⟨HD, 1, none⟩ = some (.string tx) ∧ Q.cell? ⟨HD, 2, none⟩ = some (.string qx)), QQ.w.cell? ⟨HC, 2, none⟩ = some (.string rx) := fun QQ => QQ.ok.2.2.1
            have q3 : ∀ QQ : Wd (fun Q => Q.cell? ⟨HC, 0, none⟩ = some (.int .i64 N2) ∧ Q.cell? ⟨HC, 1, none⟩ = some (.string sx) ∧ Q.cell? ⟨HC, 2, none⟩ = some (.string rx) ∧ Q.cell? ⟨HD, 0, none⟩ = some (.int .i64 M2) ∧ Q.cell? ⟨HD, 1, none⟩ = some (.string tx) ∧ Q.cell? ⟨HD, 2, none⟩ = some (.string qx)), QQ.w.cell? ⟨HD, 0, none⟩ = some (.int .i64 M2) := fun QQ => QQ.ok.2.2.2.1
            have q4 : ∀ QQ : Wd (fun Q => Q.cell? ⟨HC, 0, none⟩ = some (.int .i64 N2) ∧ Q.cell? ⟨HC, 1, none⟩ = some (.string sx) ∧ Q.cell? ⟨HC, 2, none⟩ = some (.string rx) ∧ Q.cell? ⟨HD, 0, none⟩ = some (.int .i64 M2) ∧ Q.cell? ⟨HD, 1, none⟩ = some (.string tx) ∧ Q.cell? ⟨HD, 2, none⟩ = some (.string qx)), QQ.w.cell? ⟨HD, 1, none⟩ = some (.string tx) := fun QQ => QQ.ok.2.2.2.2.1
            have q5 : ∀ QQ : Wd (fun Q => Q.cell? ⟨HC, 0, none⟩ = some (.int .i64 N2) ∧ Q.cell? ⟨HC, 1, none⟩ = some (.string sx) ∧ Q.cell? ⟨HC, 2, none⟩ = some (.string rx) ∧ Q.cell? ⟨HD, 0, none⟩ = some (.int .i64 M2) ∧ Q.cell? ⟨HD, 1, none⟩ = some (.string tx) ∧ Q.cell? ⟨HD, 2, none⟩ = some (.string qx)), QQ.w.cell? ⟨HD, 2, none⟩ = some (.string qx) := fun QQ => QQ.ok.2.2.2.2.2
            have hne : Nonempty (Wd (fun Q => Q.cell? ⟨HC, 0, none⟩ = some (.int .i64 N2) ∧ Q.cell? ⟨HC, 1, none⟩ = some (.string sx) ∧ Q.cell? ⟨HC, 2, none⟩ = some (.string rx) ∧ Q.cell? ⟨HD, 0, none⟩ = some (.int .i64 M2) ∧ Q.cell? ⟨HD, 1, none⟩ = some (.string tx) ∧ Q.cell? ⟨HD, 2, none⟩ = some (.string qx))) := ⟨⟨W22, ⟨(Box.c BC_50.out).1, (Box.c BC_50.out).2.1, (Box.c BC_50.out).2.2, (Box.c BD_50.out).1, (Box.c BD_50.out).2.1, (Box.c BD_50.out).2.2⟩⟩⟩
            go_wp2_with fail
            rw [← hW22]
            clear hW22 k0 f0
            refine chain (S := (fun Q => Q.cell? ⟨HC, 0, none⟩ = some (.int .i64 N2) ∧ Q.cell? ⟨HC, 1, none⟩ = some (.string sx) ∧ Q.cell? ⟨HC, 2, none⟩ = some (.string rx) ∧ Q.cell? ⟨HD, 0, none⟩ = some (.int .i64 M2) ∧ Q.cell? ⟨HD, 1, none⟩ = some (.string tx) ∧ Q.cell? ⟨HD, 2, none⟩ = some (.string qx))) [([true, true, true, true], 4), ([false, false, false, false, false, true], 6)] [false, false, false, false, false, false, false, true] (by kernel_rfl) (by kernel_rfl) (by kernel_rfl) ⟨(Box.c BC_50.out).1, (Box.c BC_50.out).2.1, (Box.c BC_50.out).2.2, (Box.c BD_50.out).1, (Box.c BD_50.out).2.1, (Box.c BD_50.out).2.2⟩ ?_
            simp only [wpSegs, pickB, List.dropLast_cons_cons, List.dropLast_singleton, List.getLast?_cons_cons, List.getLast?_singleton, List.toList_toArray, List.getElem?_toArray, List.getElem?_cons_succ, List.getElem?_cons_zero, Option.toList_some]
            have OA_51 := Lib.hid (ownKept (R := R) OA_50.out (grown_drew (World.grownBy.refl _ _)) (by omega))
            have OB_51 := Lib.hid (ownKept (R := R) OB_50.out (grown_drew (World.grownBy.refl _ _)) (by omega))
            have RD_51 : Hid (Rd W22.drew R ao len cap (p2 + 1)) := RD_50.out.drew
            have GR_51 := Lib.hid (grown_drew GR_50.out)
            have BA_51 : Hid (Box 24 W22.drew w.heap.size 0 ⟨#[]⟩ ⟨#[]⟩) := Box.drew BA_50.out
            have BB_51 : Hid (Box 24 W22.drew (w.heap.size + 1) 0 ⟨#[]⟩ ⟨#[]⟩) := Box.drew BB_50.out
            have BC_51 : Hid (Box 24 W22.drew HC N2 sx rx) := Box.drew BC_50.out
            have BD_51 : Hid (Box 24 W22.drew HD M2 tx qx) := Box.drew BD_50.out
            clear RD_50 GR_50 BA_50 BB_50 BC_50 BD_50 OA_50 OB_50
            have BZ : Box 24 W22 w.heap.size 0 ⟨#[]⟩ ⟨#[]⟩ := BA_51.out
            obtain ⟨z0, z1, z2⟩ := Box.c BZ
            have f0 := Box.free BZ 0
            have f1 := Box.free BZ 1
            have f2 := Box.free BZ 2
            clear BZ
            repeat (go_big_quiet_step (fail))
            refine wpQuiet_nil ?_
            intro K hK
            go_wp2_with fail
            clear z0 z1 z2 f0 f1 f2
            obtain ⟨W52, hWf52⟩ : ∃ QZ, QZ = (((W22.setCell ⟨w.heap.size, 0, none⟩ (.int .i64 N2)).setCell ⟨w.heap.size, 1, none⟩ (.string sx)).setCell ⟨w.heap.size, 2, none⟩ (.string rx)).drew := ⟨_, rfl⟩
            have hW52 : W52 = (((W22.drew.setCell ⟨w.heap.size, 0, none⟩ (.int .i64 N2)).setCell ⟨w.heap.size, 1, none⟩ (.string sx)).setCell ⟨w.heap.size, 2, none⟩ (.string rx)) := hWf52
            have RD_52 : Hid (Rd W52 R ao len cap (p2 + 1)) := by rw [hW52]; exact rd_sets RD_51.out (by omega)
            have GR_52 : Hid (w.grownBy W52 (some R)) := by rw [hW52]; exact grown_sets GR_51.out (by omega)
            have BA_52 : Hid (Box 24 W52 w.heap.size N2 sx rx) := by rw [hW52]; exact ((Box.set0 BA_51.out N2).set1 sx).set2 rx
            have BB_52 : Hid (Box 24 W52 (w.heap.size + 1) 0 ⟨#[]⟩ ⟨#[]⟩) := by rw [hW52]; exact box_others BB_51.out (by omega)
            have BC_52 : Hid (Box 24 W52 HC N2 sx rx) := by rw [hW52]; exact box_others BC_51.out (by omega)
            have BD_52 : Hid (Box 24 W52 HD M2 tx qx) := by rw [hW52]; exact box_others BD_51.out (by omega)
            have OA_52 : Hid (OwnI 3 W52 H0 (.slice (some ⟨gA, 0, none⟩) n1 cA) (la.set 0 (wrap64 (-1 - z)))) := by rw [hW52]; exact own_sets OA_51.out (by omega)
            have OB_52 : Hid (OwnI 3 W52 (H0 + 1) vb lb) := by rw [hW52]; exact own_sets OB_51.out (by omega)
            clear RD_51 GR_51 BA_51 BB_51 BC_51 BD_51 OA_51 OB_51
            clear hW52
            rw [← hWf52]
            clear hWf52
            refine hK _ _ ⟨(Box.c BC_52.out).1, (Box.c BC_52.out).2.1, (Box.c BC_52.out).2.2, (Box.c BD_52.out).1, (Box.c BD_52.out).2.1, (Box.c BD_52.out).2.2⟩ ?_
            clear hK K
            have BZ := BB_52.out
            obtain ⟨z0, z1, z2⟩ := Box.c BZ
            have f0 := Box.free BZ 0
            have f1 := Box.free BZ 1
            have f2 := Box.free BZ 2
            clear BZ
            repeat (go_big_quiet_step (fail))
            refine wpQuiet_nil ?_
            intro K hK
            go_wp2_with fail
            clear z0 z1 z2 f0 f1 f2
            obtain ⟨W53, hW53⟩ : ∃ QZ, QZ = (((W52.setCell ⟨w.heap.size + 1, 0, none⟩ (.int .i64 M2)).setCell ⟨w.heap.size + 1, 1, none⟩ (.string tx)).setCell ⟨w.heap.size + 1, 2, none⟩ (.string qx)) := ⟨_, rfl⟩
            have RD_53 : Hid (Rd W53 R ao len cap (p2 + 1)) := by rw [hW53]; exact rd_sets RD_52.out (by omega)
            have GR_53 : Hid (w.grownBy W53 (some R)) := by rw [hW53]; exact grown_sets GR_52.out (by omega)
            have BA_53 : Hid (Box 24 W53 w.heap.size N2 sx rx) := by rw [hW53]; exact box_others BA_52.out (by omega)
            have BB_53 : Hid (Box 24 W53 (w.heap.size + 1) M2 tx qx) := by rw [hW53]; exact ((Box.set0 BB_52.out M2).set1 tx).set2 qx
            have BC_53 : Hid (Box 24 W53 HC N2 sx rx) := by rw [hW53]; exact box_others BC_52.out (by omega)
            have BD_53 : Hid (Box 24 W53 HD M2 tx qx) := by rw [hW53]; exact box_others BD_52.out (by omega)
            have OA_53 : Hid (OwnI 3 W53 H0 (.slice (some ⟨gA, 0, none⟩) n1 cA) (la.set 0 (wrap64 (-1 - z)))) := by rw [hW53]; exact own_sets OA_52.out (by omega)
            have OB_53 : Hid (OwnI 3 W53 (H0 + 1) vb lb) := by rw [hW53]; exact own_sets OB_52.out (by omega)
            clear RD_52 GR_52 BA_52 BB_52 BC_52 BD_52 OA_52 OB_52
            rw [← hW53]
            clear hW53
            refine hK _ _ ⟨(Box.c BC_53.out).1, (Box.c BC_53.out).2.1, (Box.c BC_53.out).2.2, (Box.c BD_53.out).1, (Box.c BD_53.out).2.1, (Box.c BD_53.out).2.2⟩ ?_
            clear hK K
            repeat (go_big_quiet_step (fail))
            refine wpQuiet_nil ?_
            clear q0 q1 q2 q3 q4 q5 hne
            have HF := Lib.hid (show _ ∧ _ from ⟨Box.c BA_53.out, Box.c BB_53.out⟩)
            have RES := Lib.hid (show _ ∧ _ ∧ _ ∧ _ from ⟨OA_53.out.mono (show w.heap.size ≤ H0 by omega), OB_53.out.mono (show w.heap.size ≤ H0 + 1 by omega), RD_53.out, GR_53.out⟩)
            clear RD_53 GR_53 BA_53 BB_53 BC_53 BD_53 OA_53 OB_53
            go_wp2
            exact bodyPost_ret (v := .tuple #[.agg #[.int .i64 N2, .string sx, .string rx], (.slice (some ⟨gA, 0, none⟩) n1 cA), .agg #[.int .i64 M2, .string tx, .string qx], vb]) (by simp [results, Tryd.results62, go_sem, HF.out.1.1, HF.out.1.2.1, HF.out.1.2.2, HF.out.2.1, HF.out.2.2.1, HF.out.2.2.2] <;> exact HN1.out.symm) rfl ⟨N2, sx, rx, _, (la.set 0 (wrap64 (-1 - z))), M2, tx, qx, _, lb, _, rfl, ⟨hnw, hs100, by omega⟩, HMQ.out, ⟨by have := LAB.out.1.1; omega, LAB.out.1.2⟩, ⟨by have := LAB.out.2.1.1; omega, LAB.out.2.1.2⟩, RES.out.1, RES.out.2.1, RES.out.2.2.1, LAB.out.2.2, RES.out.2.2.2⟩
          · obtain ⟨c0, c1, c2⟩ := Box.c ST20.out.c
            go_wp2_with fail
            clear c0 c1 c2
            refine (l1Bad_any R ao len cap (p2 + 1) N2 sx rx _ ST20.out.rd (by omega) (by omega) hs' hNN.1 hNN.2).mono ?_
            rintro e W21 ⟨n3, s3, r3, p5, rfl, hnw2, hs2, hr2, hrd, hp5, hg⟩
            have ST21 := Lib.hid (ST20.out.draw hrd (by omega) hg)
            clear hrd hg ST20
            obtain ⟨z0, z1, z2⟩ := Box.c ST21.out.c
            have f0 := Box.free ST21.out.c 0
            have f1 := Box.free ST21.out.c 1
            have f2 := Box.free ST21.out.c 2
            obtain ⟨W22, hW22⟩ : ∃ q, q = (((W21.setCell ⟨HC, 0, none⟩ (.int .i64 n3)).setCell ⟨HC, 1, none⟩ (.string s3)).setCell ⟨HC, 2, none⟩ (.string r3)) := ⟨_, rfl⟩
            have ST22 : Hid (St4 w R ao len cap (p + 2000) HC HD n3 s3 r3 M2 tx qx H0 va la (H0 + 1) vb lb p5 W22) := by rw [hW22]; exact ST21.out.setC n3 s3 r3
            clear ST21
            have RD_50 := Lib.hid ST22.out.rd
            have GR_50 := Lib.hid ST22.out.g
            have BA_50 := Lib.hid ST22.out.a
            have BB_50 := Lib.hid ST22.out.b
            have BC_50 := Lib.hid ST22.out.c
            have BD_50 := Lib.hid ST22.out.d
            have OA_50 := Lib.hid ST22.out.oa
            have OB_50 := Lib.hid ST22.out.ob
            have LAB := Lib.hid (show _ ∧ _ ∧ _ from ⟨ST22.out.la, ST22.out.lb, ST22.out.p⟩)
            have hh1 := ST22.out.h
            have hh2 := ST22.out.ba
            have hh3 := ST22.out.bb
            clear ST22
            have q0 : ∀ QQ : Wd (fun Q => Q.cell? ⟨HC, 0, none⟩ = some (.int .i64 n3) ∧ Q.cell? ⟨HC, 1, none⟩ = some (.string s3) ∧ Q.cell? ⟨HC, 2, none⟩ = some (.string r3) ∧ Q.cell? ⟨HD, 0, none⟩ = some (.int .i64 M2) ∧ Q.cell? ⟨HD, 1, none⟩ = some (.string tx) ∧ Q.cell? ⟨HD, 2, none⟩ = some (.string qx)), QQ.w.cell? ⟨HC, 0, none⟩ = some (.int .i64 n3) := fun QQ => QQ.ok.1
            have q1 : ∀ QQ : Wd (fun Q => Q.cell? ⟨HC, 0, none⟩ = some (.int .i64 n3) ∧ Q.cell? ⟨HC, 1, none⟩ = some (.string s3) ∧ Q.cell? ⟨HC, 2, none⟩ = some (.string r3) ∧ Q.cell? ⟨HD, 0, none⟩ = some (.int .i64 M2) ∧ Q.cell? ⟨HD, 1, none⟩ = some (.string tx) ∧ Q.cell? ⟨HD, 2, none⟩ = some (.string qx)), QQ.w.cell? ⟨HC, 1, none⟩ = some (.string s3) := fun QQ => QQ.ok.2.1
            have q2 : ∀ QQ : Wd (fun Q => Q.cell? ⟨HC, 0, none⟩ = some (.int .i64 n3) ∧ Q.cell? ⟨HC, 1, none⟩ = some (.string s3) ∧ Q.cell? ⟨HC, 2, none⟩ = some (.string r3) ∧ Q.cell? ⟨HD, 0, none⟩ = some (.int .i64 M2) ∧ Q.cell? ⟨HD, 1, none⟩ = some (.string tx) ∧ Q.cell? ⟨HD, 2, none⟩ = some (.string qx)), QQ.w.cell? ⟨HC, 2, none⟩ = some (.string r3) := fun QQ => QQ.ok.2.2.1
            have q3 : ∀ QQ : Wd (fun Q => Q.cell? ⟨HC, 0, none⟩ = some (.int .i64 n3) ∧ Q.cell? ⟨HC, 1, none⟩ = some (.string s3) ∧ Q.cell? ⟨HC, 2, none⟩ = some (.string r3) ∧ Q.cell? ⟨HD, 0, none⟩ = some (.int .i64 M2) ∧ Q.cell? ⟨HD, 1, none⟩ = some (.string tx) ∧ Q.cell? ⟨HD, 2, none⟩ = some (.string qx)), QQ.w.cell? ⟨HD, 0, none⟩ = some (.int .i64 M2) := fun QQ => QQ.ok.2.2.2.1
            have q4 : ∀ QQ : Wd (fun Q => Q.cell? ⟨HC, 0, none⟩ = some (.int .i64 n3) ∧ Q.cell? ⟨HC, 1, none⟩ = some (.string s3) ∧ Q.cell? ⟨HC, 2, none⟩ = some (.string r3) ∧ Q.cell? ⟨HD, 0, none⟩ = some (.int .i64 M2) ∧ Q.cell? ⟨HD, 1, none⟩ = some (.string tx) ∧ Q.cell? ⟨HD, 2, none⟩ = some (.string qx)), QQ.w.cell? ⟨HD, 1, none⟩ = some (.string tx) := fun QQ => QQ.ok.2.2.2.2.1
            have q5 : ∀ QQ : Wd (fun Q => Q.cell? ⟨HC, 0, none⟩ = some (.int .i64 n3) ∧ Q.cell? ⟨HC, 1, none⟩ = some (.string s3) ∧ Q.cell? ⟨HC, 2, none⟩ = some (.string r3) ∧ Q.cell? ⟨HD, 0, none⟩ = some (.int .i64 M2) ∧ Q.cell? ⟨HD, 1, none⟩ = some (.string tx) ∧ Q.cell? ⟨HD, 2, none⟩ = some (.string qx)), QQ.w.cell? ⟨HD, 2, none⟩ = some (.string qx) := fun QQ => QQ.ok.2.2.2.2.2
            have hne : Nonempty (Wd (fun Q => Q.cell? ⟨HC, 0, none⟩ = some (.int .i64 n3) ∧ Q.cell? ⟨HC, 1, none⟩ = some (.string s3) ∧ Q.cell? ⟨HC, 2, none⟩ = some (.string r3) ∧ Q.cell? ⟨HD, 0, none⟩ = some (.int .i64 M2) ∧ Q.cell? ⟨HD, 1, none⟩ = some (.string tx) ∧ Q.cell? ⟨HD, 2, none⟩ = some (.string qx))) := ⟨⟨W22, ⟨(Box.c BC_50.out).1, (Box.c BC_50.out).2.1, (Box.c BC_50.out).2.2, (Box.c BD_50.out).1, (Box.c BD_50.out).2.1, (Box.c BD_50.out).2.2⟩⟩⟩
            go_wp2_with fail
            rw [← hW22]
            clear hW22 z0 z1 z2 f0 f1 f2
            refine chain (S := (fun Q => Q.cell? ⟨HC, 0, none⟩ = some (.int .i64 n3) ∧ Q.cell? ⟨HC, 1, none⟩ = some (.string s3) ∧ Q.cell? ⟨HC, 2, none⟩ = some (.string r3) ∧ Q.cell? ⟨HD, 0, none⟩ = some (.int .i64 M2) ∧ Q.cell? ⟨HD, 1, none⟩ = some (.string tx) ∧ Q.cell? ⟨HD, 2, none⟩ = some (.string qx))) [([true, true, true, true], 4), ([false, false, false, false, false, true], 6)] [false, false, false, false, false, false, false, true] (by kernel_rfl) (by kernel_rfl) (by kernel_rfl) ⟨(Box.c BC_50.out).1, (Box.c BC_50.out).2.1, (Box.c BC_50.out).2.2, (Box.c BD_50.out).1, (Box.c BD_50.out).2.1, (Box.c BD_50.out).2.2⟩ ?_
            simp only [wpSegs, pickB, List.dropLast_cons_cons, List.dropLast_singleton, List.getLast?_cons_cons, List.getLast?_singleton, List.toList_toArray, List.getElem?_toArray, List.getElem?_cons_succ, List.getElem?_cons_zero, Option.toList_some]
            have OA_51 := Lib.hid (ownKept (R := R) OA_50.out (grown_drew (World.grownBy.refl _ _)) (by omega))
            have OB_51 := Lib.hid (ownKept (R := R) OB_50.out (grown_drew (World.grownBy.refl _ _)) (by omega))
            have RD_51 : Hid (Rd W22.drew R ao len cap p5) := RD_50.out.drew
            have GR_51 := Lib.hid (grown_drew GR_50.out)
            have BA_51 : Hid (Box 24 W22.drew w.heap.size 0 ⟨#[]⟩ ⟨#[]⟩) := Box.drew BA_50.out
            have BB_51 : Hid (Box 24 W22.drew (w.heap.size + 1) 0 ⟨#[]⟩ ⟨#[]⟩) := Box.drew BB_50.out
            have BC_51 : Hid (Box 24 W22.drew HC n3 s3 r3) := Box.drew BC_50.out
            have BD_51 : Hid (Box 24 W22.drew HD M2 tx qx) := Box.drew BD_50.out
            clear RD_50 GR_50 BA_50 BB_50 BC_50 BD_50 OA_50 OB_50
            have BZ : Box 24 W22 w.heap.size 0 ⟨#[]⟩ ⟨#[]⟩ := BA_51.out
            obtain ⟨z0, z1, z2⟩ := Box.c BZ
            have f0 := Box.free BZ 0
            have f1 := Box.free BZ 1
            have f2 := Box.free BZ 2
            clear BZ
            repeat (go_big_quiet_step (fail))
            refine wpQuiet_nil ?_
            intro K hK
            go_wp2_with fail
            clear z0 z1 z2 f0 f1 f2
            obtain ⟨W52, hWf52⟩ : ∃ QZ, QZ = (((W22.setCell ⟨w.heap.size, 0, none⟩ (.int .i64 n3)).setCell ⟨w.heap.size, 1, none⟩ (.string s3)).setCell ⟨w.heap.size, 2, none⟩ (.string r3)).drew := ⟨_, rfl⟩
            have hW52 : W52 = (((W22.drew.setCell ⟨w.heap.size, 0, none⟩ (.int .i64 n3)).setCell ⟨w.heap.size, 1, none⟩ (.string s3)).setCell ⟨w.heap.size, 2, none⟩ (.string r3)) := hWf52
            have RD_52 : Hid (Rd W52 R ao len cap p5) := by rw [hW52]; exact rd_sets RD_51.out (by omega)
            have GR_52 : Hid (w.grownBy W52 (some R)) := by rw [hW52]; exact grown_sets GR_51.out (by omega)
            have BA_52 : Hid (Box 24 W52 w.heap.size n3 s3 r3) := by rw [hW52]; exact ((Box.set0 BA_51.out n3).set1 s3).set2 r3
            have BB_52 : Hid (Box 24 W52 (w.heap.size + 1) 0 ⟨#[]⟩ ⟨#[]⟩) := by rw [hW52]; exact box_others BB_51.out (by omega)
            have BC_52 : Hid (Box 24 W52 HC n3 s3 r3) := by rw [hW52]; exact box_others BC_51.out (by omega)
            have BD_52 : Hid (Box 24 W52 HD M2 tx qx) := by rw [hW52]; exact box_others BD_51.out (by omega)
            have OA_52 : Hid (OwnI 3 W52 H0 va la) := by rw [hW52]; exact own_sets OA_51.out (by omega)
            have OB_52 : Hid (OwnI 3 W52 (H0 + 1) vb lb) := by rw [hW52]; exact own_sets OB_51.out (by omega)
            clear RD_51 GR_51 BA_51 BB_51 BC_51 BD_51 OA_51 OB_51
            clear hW52
            rw [← hWf52]
            clear hWf52
            refine hK _ _ ⟨(Box.c BC_52.out).1, (Box.c BC_52.out).2.1, (Box.c BC_52.out).2.2, (Box.c BD_52.out).1, (Box.c BD_52.out).2.1, (Box.c BD_52.out).2.2⟩ ?_
            clear hK K
            have BZ := BB_52.out
            obtain ⟨z0, z1, z2⟩ := Box.c BZ
            have f0 := Box.free BZ 0
            have f1 := Box.free BZ 1
            have f2 := Box.free BZ 2
            clear BZ
            repeat (go_big_quiet_step (fail))
            refine wpQuiet_nil ?_
            intro K hK
            go_wp2_with fail
            clear z0 z1 z2 f0 f1 f2
            obtain ⟨W53, hW53⟩ : ∃ QZ, QZ = (((W52.setCell ⟨w.heap.size + 1, 0, none⟩ (.int .i64 M2)).setCell ⟨w.heap.size + 1, 1, none⟩ (.string tx)).setCell ⟨w.heap.size + 1, 2, none⟩ (.string qx)) := ⟨_, rfl⟩
            have RD_53 : Hid (Rd W53 R ao len cap p5) := by rw [hW53]; exact rd_sets RD_52.out (by omega)
            have GR_53 : Hid (w.grownBy W53 (some R)) := by rw [hW53]; exact grown_sets GR_52.out (by omega)
            have BA_53 : Hid (Box 24 W53 w.heap.size n3 s3 r3) := by rw [hW53]; exact box_others BA_52.out (by omega)
            have BB_53 : Hid (Box 24 W53 (w.heap.size + 1) M2 tx qx) := by rw [hW53]; exact ((Box.set0 BB_52.out M2).set1 tx).set2 qx
            have BC_53 : Hid (Box 24 W53 HC n3 s3 r3) := by rw [hW53]; exact box_others BC_52.out (by omega)
            have BD_53 : Hid (Box 24 W53 HD M2 tx qx) := by rw [hW53]; exact box_others BD_52.out (by omega)
            have OA_53 : Hid (OwnI 3 W53 H0 va la) := by rw [hW53]; exact own_sets OA_52.out (by omega)
            have OB_53 : Hid (OwnI 3 W53 (H0 + 1) vb lb) := by rw [hW53]; exact own_sets OB_52.out (by omega)
            clear RD_52 GR_52 BA_52 BB_52 BC_52 BD_52 OA_52 OB_52
            rw [← hW53]
            clear hW53
            refine hK _ _ ⟨(Box.c BC_53.out).1, (Box.c BC_53.out).2.1, (Box.c BC_53.out).2.2, (Box.c BD_53.out).1, (Box.c BD_53.out).2.1, (Box.c BD_53.out).2.2⟩ ?_
            clear hK K
            repeat (go_big_quiet_step (fail))
            refine wpQuiet_nil ?_
            clear q0 q1 q2 q3 q4 q5 hne
            have HF := Lib.hid (show _ ∧ _ from ⟨Box.c BA_53.out, Box.c BB_53.out⟩)
            have RES := Lib.hid (show _ ∧ _ ∧ _ ∧ _ from ⟨OA_53.out.mono (show w.heap.size ≤ H0 by omega), OB_53.out.mono (show w.heap.size ≤ H0 + 1 by omega), RD_53.out, GR_53.out⟩)
            clear RD_53 GR_53 BA_53 BB_53 BC_53 BD_53 OA_53 OB_53
            go_wp2
            exact bodyPost_ret (v := .tuple #[.agg #[.int .i64 n3, .string s3, .string r3], va, .agg #[.int .i64 M2, .string tx, .string qx], vb]) (by simp [results, Tryd.results62, go_sem, HF.out.1.1, HF.out.1.2.1, HF.out.1.2.2, HF.out.2.1, HF.out.2.2.1, HF.out.2.2.2]) rfl ⟨n3, s3, r3, _, la, M2, tx, qx, _, lb, _, rfl, ⟨hnw2, hs2, hr2⟩, HMQ.out, ⟨by have := LAB.out.1.1; omega, LAB.out.1.2⟩, ⟨by have := LAB.out.2.1.1; omega, LAB.out.2.1.2⟩, RES.out.1, RES.out.2.1, RES.out.2.2.1, LAB.out.2.2, RES.out.2.2.2⟩
          · have RD_50 := Lib.hid ST20.out.rd
            have GR_50 := Lib.hid ST20.out.g
            have BA_50 := Lib.hid ST20.out.a
            have BB_50 := Lib.hid ST20.out.b
            have BC_50 := Lib.hid ST20.out.c
            have BD_50 := Lib.hid ST20.out.d
            have HPP := Lib.hid ST20.out.p
            clear ST20
            have q0 : ∀ QQ : Wd (fun Q => Q.cell? ⟨HC, 0, none⟩ = some (.int .i64 N2) ∧ Q.cell? ⟨HC, 1, none⟩ = some (.string sx) ∧ Q.cell? ⟨HC, 2, none⟩ = some (.string rx) ∧ Q.cell? ⟨HD, 0, none⟩ = some (.int .i64 M2) ∧ Q.cell? ⟨HD, 1, none⟩ = some (.string tx) ∧ Q.cell? ⟨HD, 2, none⟩ = some (.string qx)), QQ.w.cell? ⟨HC, 0, none⟩ = some (.int .i64 N2) := fun QQ => QQ.ok.1
            have q1 : ∀ QQ : Wd (fun Q => Q.cell? ⟨HC, 0, none⟩ = some (.int .i64 N2) ∧ Q.cell? ⟨HC, 1, none⟩ = some (.string sx) ∧ Q.cell? ⟨HC, 2, none⟩ = some (.string rx) ∧ Q.cell? ⟨HD, 0, none⟩ = some (.int .i64 M2) ∧ Q.cell? ⟨HD, 1, none⟩ = some (.string tx) ∧ Q.cell? ⟨HD, 2, none⟩ = some (.string qx)), QQ.w.cell? ⟨HC, 1, none⟩ = some (.string sx) := fun QQ => QQ.ok.2.1
            have q2 : ∀ QQ : Wd (fun Q => Q.cell? ⟨HC, 0, none⟩ = some (.int .i64 N2) ∧ Q.cell? ⟨HC, 1, none⟩ = some (.string sx) ∧ Q.cell? ⟨HC, 2, none⟩ = some (.string rx) ∧ Q.cell? ⟨HD, 0, none⟩ = some (.int .i64 M2) ∧ Q.cell? ⟨HD, 1, none⟩ = some (.string tx) ∧ Q.cell? ⟨HD, 2, none⟩ = some (.string qx)), QQ.w.cell? ⟨HC, 2, none⟩ = some (.string rx) := fun QQ => QQ.ok.2.2.1
            have q3 : ∀ QQ : Wd (fun Q => Q.cell? ⟨HC, 0, none⟩ = some (.int .i64 N2) ∧ Q.cell? ⟨HC, 1, none⟩ = some (.string sx) ∧ Q.cell? ⟨HC, 2, none⟩ = some (.string rx) ∧ Q.cell? ⟨HD, 0, none⟩ = some (.int .i64 M2) ∧ Q.cell? ⟨HD, 1, none⟩ = some (.string tx) ∧ Q.cell? ⟨HD, 2, none⟩ = some (.string qx)), QQ.w.cell? ⟨HD, 0, none⟩ = some (.int .i64 M2) := fun QQ => QQ.ok.2.2.2.1
            have q4 : ∀ QQ : Wd (fun Q => Q.cell? ⟨HC, 0, none⟩ = some (.int .i64 N2) ∧ Q.cell? ⟨HC, 1, none⟩ = some (.string sx) ∧ Q.cell? ⟨HC, 2, none⟩ = some (.string rx) ∧ Q.cell? ⟨HD, 0, none⟩ = some (.int .i64 M2) ∧ Q.cell? ⟨HD, 1, none⟩ = some (.string tx) ∧ Q.cell? ⟨HD, 2, none⟩ = some (.string qx)), QQ.w.cell? ⟨HD, 1, none⟩ = some (.string tx) := fun QQ => QQ.ok.2.2.2.2.1
            have q5 : ∀ QQ : Wd (fun Q => Q.cell? ⟨HC, 0, none⟩ = some (.int .i64 N2) ∧ Q.cell? ⟨HC, 1, none⟩ = some (.string sx) ∧ Q.cell? ⟨HC, 2, none⟩ = some (.string rx) ∧ Q.cell? ⟨HD, 0, none⟩ = some (.int .i64 M2) ∧ Q.cell? ⟨HD, 1, none⟩ = some (.string tx) ∧ Q.cell? ⟨HD, 2, none⟩ = some (.string qx)), QQ.w.cell? ⟨HD, 2, none⟩ = some (.string qx) := fun QQ => QQ.ok.2.2.2.2.2
            have hne : Nonempty (Wd (fun Q => Q.cell? ⟨HC, 0, none⟩ = some (.int .i64 N2) ∧ Q.cell? ⟨HC, 1, none⟩ = some (.string sx) ∧ Q.cell? ⟨HC, 2, none⟩ = some (.string rx) ∧ Q.cell? ⟨HD, 0, none⟩ = some (.int .i64 M2) ∧ Q.cell? ⟨HD, 1, none⟩ = some (.string tx) ∧ Q.cell? ⟨HD, 2, none⟩ = some (.string qx))) := ⟨⟨W20, ⟨(Box.c BC_50.out).1, (Box.c BC_50.out).2.1, (Box.c BC_50.out).2.2, (Box.c BD_50.out).1, (Box.c BD_50.out).2.1, (Box.c BD_50.out).2.2⟩⟩⟩
            go_wp2_with fail
            refine tri.tree (S := (fun Q => Q.cell? ⟨HC, 0, none⟩ = some (.int .i64 N2) ∧ Q.cell? ⟨HC, 1, none⟩ = some (.string sx) ∧ Q.cell? ⟨HC, 2, none⟩ = some (.string rx) ∧ Q.cell? ⟨HD, 0, none⟩ = some (.int .i64 M2) ∧ Q.cell? ⟨HD, 1, none⟩ = some (.string tx) ∧ Q.cell? ⟨HD, 2, none⟩ = some (.string qx))) (tri.Tr.three [true, false, true] 1 (tri.Tr.two [] 3 (tri.Tr.one [] 4 (tri.Tr.one [false, false, false, false, false, true] 6 (tri.Tr.leaf [false, false, false, false, false, false, false, true]))) 4 (tri.Tr.two [false, false, false, false, false, true] 3 (tri.Tr.one [] 6 (tri.Tr.leaf [false, false, false, false, false, false, false, true])) 6 (tri.Tr.one [] 3 (tri.Tr.leaf [false, false, false, false, false, false, false, true])))) 3 (tri.Tr.two [] 1 (tri.Tr.one [] 4 (tri.Tr.one [false, false, false, false, false, true] 6 (tri.Tr.leaf [false, false, false, false, false, false, false, true]))) 4 (tri.Tr.one [] 1 (tri.Tr.one [false, false, false, false, false, true] 6 (tri.Tr.leaf [false, false, false, false, false, false, false, true])))) 4 (tri.Tr.two [] 1 (tri.Tr.two [false, false, false, false, false, true] 3 (tri.Tr.one [] 6 (tri.Tr.leaf [false, false, false, false, false, false, false, true])) 6 (tri.Tr.one [] 3 (tri.Tr.leaf [false, false, false, false, false, false, false, true]))) 3 (tri.Tr.one [] 1 (tri.Tr.one [false, false, false, false, false, true] 6 (tri.Tr.leaf [false, false, false, false, false, false, false, true]))))) (by kernel_rfl) (by kernel_rfl) (by kernel_rfl) ⟨(Box.c BC_50.out).1, (Box.c BC_50.out).2.1, (Box.c BC_50.out).2.2, (Box.c BD_50.out).1, (Box.c BD_50.out).2.1, (Box.c BD_50.out).2.2⟩ ?_
            simp only [tri.wpTr, pickB, List.toList_toArray, List.getElem?_toArray, List.getElem?_cons_succ, List.getElem?_cons_zero, Option.toList_some]
            have RD_51 : Hid (Rd W20.drew R ao len cap (p2 + 1)) := RD_50.out.drew
            have GR_51 := Lib.hid (grown_drew GR_50.out)
            have BA_51 : Hid (Box 24 W20.drew w.heap.size 0 ⟨#[]⟩ ⟨#[]⟩) := Box.drew BA_50.out
            have BB_51 : Hid (Box 24 W20.drew (w.heap.size + 1) 0 ⟨#[]⟩ ⟨#[]⟩) := Box.drew BB_50.out
            have BC_51 : Hid (Box 24 W20.drew HC N2 sx rx) := Box.drew BC_50.out
            have BD_51 : Hid (Box 24 W20.drew HD M2 tx qx) := Box.drew BD_50.out
            clear RD_50 GR_50 BA_50 BB_50 BC_50 BD_50
            repeat (go_big_quiet_step (fail))
            refine wpQuiet_nil ?_
            refine ⟨?_, ?_, ?_⟩
            · intro K hK
              go_wp2_with fail
              obtain ⟨VB1, hV⟩ : ∃ QZ, QZ = (W20.alloc (.cells #[] 3)).drew := ⟨_, rfl⟩
              obtain ⟨HL1, hHL⟩ : ∃ QZ, QZ = W20.heap.size := ⟨_, rfl⟩
              have hba : Below W20.heap.size W20.drew VB1 := by rw [hV]; exact Below.trans (b := W20) ⟨rfl, rfl, rfl, Nat.le_refl _, fun _ _ => rfl⟩ ((Below.refl W20.heap.size W20).alloc (Nat.le_refl _) _).drew
              have hLR1 : R < HL1 ∧ w.heap.size + 1 < HL1 := by rw [hHL]; exact ⟨RD_51.out.lt, BB_51.out.lt⟩
              have O1_52 : Hid (OwnI 3 VB1 HL1 (.slice (some ⟨HL1, 0, none⟩) 0 0) []) := by rw [hV, hHL]; exact OwnI.below (empty_at W20) (Below.refl _ _).drew (Nat.le_refl _)
              have hrd := rd_below RD_51.out hba RD_51.out.lt
              have hg : W20.drew.grownBy VB1 (some R) := grown_of_below hba
              clear hba
              have RD_52 := Lib.hid hrd
              have GR_52 := Lib.hid (grown_trans GR_51.out hg)
              have BA_52 := Lib.hid (Box.kept (row := some R) BA_51.out hg (by simp; omega))
              have BB_52 := Lib.hid (Box.kept (row := some R) BB_51.out hg (by simp; omega))
              have BC_52 := Lib.hid (Box.kept (row := some R) BC_51.out hg (by simp; omega))
              have BD_52 := Lib.hid (Box.kept (row := some R) BD_51.out hg (by simp; omega))
              clear hrd hg
              clear RD_51 GR_51 BA_51 BB_51 BC_51 BD_51
              rw [← hV, ← hHL]
              clear hV hHL
              refine hK _ _ ⟨(Box.c BC_52.out).1, (Box.c BC_52.out).2.1, (Box.c BC_52.out).2.2, (Box.c BD_52.out).1, (Box.c BD_52.out).2.1, (Box.c BD_52.out).2.2⟩ ?_
              clear hK K
              repeat (go_big_quiet_step (fail))
              refine wpQuiet_nil ?_
              refine ⟨?_, ?_⟩
              · intro K hK
                go_wp2_with fail
                obtain ⟨VB3, hV⟩ : ∃ QZ, QZ = VB1.alloc (.cells #[] 3) := ⟨_, rfl⟩
                obtain ⟨HL3, hHL⟩ : ∃ QZ, QZ = VB1.heap.size := ⟨_, rfl⟩
                have hba : Below VB1.heap.size VB1 VB3 := by rw [hV]; exact (Below.refl _ _).alloc (Nat.le_refl _) _
                have hLR3 : R < HL3 ∧ w.heap.size + 1 < HL3 := by rw [hHL]; exact ⟨RD_52.out.lt, BB_52.out.lt⟩
                have O3_53 : Hid (OwnI 3 VB3 HL3 (.slice (some ⟨HL3, 0, none⟩) 0 0) []) := by rw [hV, hHL]; exact empty_at VB1
                have O1_53 : Hid (OwnI 3 VB3 HL1 (.slice (some ⟨HL1, 0, none⟩) 0 0) []) := O1_52.out.below hba (Nat.le_refl _)
                have hrd := rd_below RD_52.out hba RD_52.out.lt
                have hg : VB1.grownBy VB3 (some R) := grown_of_below hba
                clear hba
                have RD_53 := Lib.hid hrd
                have GR_53 := Lib.hid (grown_trans GR_52.out hg)
                have BA_53 := Lib.hid (Box.kept (row := some R) BA_52.out hg (by simp; omega))
                have BB_53 := Lib.hid (Box.kept (row := some R) BB_52.out hg (by simp; omega))
                have BC_53 := Lib.hid (Box.kept (row := some R) BC_52.out hg (by simp; omega))
                have BD_53 := Lib.hid (Box.kept (row := some R) BD_52.out hg (by simp; omega))
                clear hrd hg
                clear RD_52 GR_52 BA_52 BB_52 BC_52 BD_52 O1_52
                rw [← hV, ← hHL]
                clear hV hHL
                refine hK _ _ ⟨(Box.c BC_53.out).1, (Box.c BC_53.out).2.1, (Box.c BC_53.out).2.2, (Box.c BD_53.out).1, (Box.c BD_53.out).2.1, (Box.c BD_53.out).2.2⟩ ?_
                clear hK K
                repeat (go_big_quiet_step (fail))
                refine wpQuiet_nil ?_
                have BZ := BA_53.out
                obtain ⟨z0, z1, z2⟩ := Box.c BZ
                have f0 := Box.free BZ 0
                have f1 := Box.free BZ 1
                have f2 := Box.free BZ 2
                clear BZ
                intro K hK
                go_wp2_with fail
                clear z0 z1 z2 f0 f1 f2
                obtain ⟨W54, hW54⟩ : ∃ QZ, QZ = (((VB3.setCell ⟨w.heap.size, 0, none⟩ (.int .i64 N2)).setCell ⟨w.heap.size, 1, none⟩ (.string sx)).setCell ⟨w.heap.size, 2, none⟩ (.string rx)) := ⟨_, rfl⟩
                have RD_54 : Hid (Rd W54 R ao len cap (p2 + 1)) := by rw [hW54]; exact rd_sets RD_53.out (by omega)
                have GR_54 : Hid (w.grownBy W54 (some R)) := by rw [hW54]; exact grown_sets GR_53.out (by omega)
                have BA_54 : Hid (Box 24 W54 w.heap.size N2 sx rx) := by rw [hW54]; exact ((Box.set0 BA_53.out N2).set1 sx).set2 rx
                have BB_54 : Hid (Box 24 W54 (w.heap.size + 1) 0 ⟨#[]⟩ ⟨#[]⟩) := by rw [hW54]; exact box_others BB_53.out (by omega)
                have BC_54 : Hid (Box 24 W54 HC N2 sx rx) := by rw [hW54]; exact box_others BC_53.out (by omega)
                have BD_54 : Hid (Box 24 W54 HD M2 tx qx) := by rw [hW54]; exact box_others BD_53.out (by omega)
                have O1_54 : Hid (OwnI 3 W54 HL1 (.slice (some ⟨HL1, 0, none⟩) 0 0) []) := by rw [hW54]; exact own_sets O1_53.out (by omega)
                have O3_54 : Hid (OwnI 3 W54 HL3 (.slice (some ⟨HL3, 0, none⟩) 0 0) []) := by rw [hW54]; exact own_sets O3_53.out (by omega)
                clear RD_53 GR_53 BA_53 BB_53 BC_53 BD_53 O1_53 O3_53
                rw [← hW54]
                clear hW54
                refine hK _ _ ⟨(Box.c BC_54.out).1, (Box.c BC_54.out).2.1, (Box.c BC_54.out).2.2, (Box.c BD_54.out).1, (Box.c BD_54.out).2.1, (Box.c BD_54.out).2.2⟩ ?_
                clear hK K
                repeat (go_big_quiet_step (fail))
                refine wpQuiet_nil ?_
                have BZ := BB_54.out
                obtain ⟨z0, z1, z2⟩ := Box.c BZ
                have f0 := Box.free BZ 0
                have f1 := Box.free BZ 1
                have f2 := Box.free BZ 2
                clear BZ
                intro K hK
                go_wp2_with fail
                clear z0 z1 z2 f0 f1 f2
                obtain ⟨W55, hW55⟩ : ∃ QZ, QZ = (((W54.setCell ⟨w.heap.size + 1, 0, none⟩ (.int .i64 M2)).setCell ⟨w.heap.size + 1, 1, none⟩ (.string tx)).setCell ⟨w.heap.size + 1, 2, none⟩ (.string qx)) := ⟨_, rfl⟩
                have RD_55 : Hid (Rd W55 R ao len cap (p2 + 1)) := by rw [hW55]; exact rd_sets RD_54.out (by omega)
                have GR_55 : Hid (w.grownBy W55 (some R)) := by rw [hW55]; exact grown_sets GR_54.out (by omega)
                have BA_55 : Hid (Box 24 W55 w.heap.size N2 sx rx) := by rw [hW55]; exact box_others BA_54.out (by omega)
                have BB_55 : Hid (Box 24 W55 (w.heap.size + 1) M2 tx qx) := by rw [hW55]; exact ((Box.set0 BB_54.out M2).set1 tx).set2 qx
                have BC_55 : Hid (Box 24 W55 HC N2 sx rx) := by rw [hW55]; exact box_others BC_54.out (by omega)
                have BD_55 : Hid (Box 24 W55 HD M2 tx qx) := by rw [hW55]; exact box_others BD_54.out (by omega)
                have O1_55 : Hid (OwnI 3 W55 HL1 (.slice (some ⟨HL1, 0, none⟩) 0 0) []) := by rw [hW55]; exact own_sets O1_54.out (by omega)
                have O3_55 : Hid (OwnI 3 W55 HL3 (.slice (some ⟨HL3, 0, none⟩) 0 0) []) := by rw [hW55]; exact own_sets O3_54.out (by omega)
                clear RD_54 GR_54 BA_54 BB_54 BC_54 BD_54 O1_54 O3_54
                rw [← hW55]
                clear hW55
                refine hK _ _ ⟨(Box.c BC_55.out).1, (Box.c BC_55.out).2.1, (Box.c BC_55.out).2.2, (Box.c BD_55.out).1, (Box.c BD_55.out).2.1, (Box.c BD_55.out).2.2⟩ ?_
                clear hK K
                repeat (go_big_quiet_step (fail))
                refine wpQuiet_nil ?_
                clear q0 q1 q2 q3 q4 q5 hne
                have HF := Lib.hid (show _ ∧ _ from ⟨Box.c BA_55.out, Box.c BB_55.out⟩)
                have RES := Lib.hid (show _ ∧ _ ∧ _ ∧ _ from ⟨O1_55.out.mono (show w.heap.size ≤ HL1 by omega), O3_55.out.mono (show w.heap.size ≤ HL3 by omega), RD_55.out, GR_55.out⟩)
                clear RD_55 GR_55 BA_55 BB_55 BC_55 BD_55 O1_55 O3_55
                go_wp2
                exact bodyPost_ret (v := .tuple #[.agg #[.int .i64 N2, .string sx, .string rx], .slice (some ⟨HL1, 0, none⟩) 0 0, .agg #[.int .i64 M2, .string tx, .string qx], .slice (some ⟨HL3, 0, none⟩) 0 0]) (by simp [results, Tryd.results62, go_sem, HF.out.1.1, HF.out.1.2.1, HF.out.1.2.2, HF.out.2.1, HF.out.2.2.1, HF.out.2.2.2]) rfl ⟨N2, sx, rx, _, [], M2, tx, qx, _, [], _, rfl, ⟨hnw, hs100, by omega⟩, HMQ.out, ⟨by decide, Nearly.any _⟩, ⟨by decide, Nearly.any _⟩, RES.out.1, RES.out.2.1, RES.out.2.2.1, HPP.out, RES.out.2.2.2⟩
              · have BZ := BA_52.out
                obtain ⟨z0, z1, z2⟩ := Box.c BZ
                have f0 := Box.free BZ 0
                have f1 := Box.free BZ 1
                have f2 := Box.free BZ 2
                clear BZ
                intro K hK
                go_wp2_with fail
                clear z0 z1 z2 f0 f1 f2
                obtain ⟨W53, hW53⟩ : ∃ QZ, QZ = (((VB1.setCell ⟨w.heap.size, 0, none⟩ (.int .i64 N2)).setCell ⟨w.heap.size, 1, none⟩ (.string sx)).setCell ⟨w.heap.size, 2, none⟩ (.string rx)) := ⟨_, rfl⟩
                have RD_53 : Hid (Rd W53 R ao len cap (p2 + 1)) := by rw [hW53]; exact rd_sets RD_52.out (by omega)
                have GR_53 : Hid (w.grownBy W53 (some R)) := by rw [hW53]; exact grown_sets GR_52.out (by omega)
                have BA_53 : Hid (Box 24 W53 w.heap.size N2 sx rx) := by rw [hW53]; exact ((Box.set0 BA_52.out N2).set1 sx).set2 rx
                have BB_53 : Hid (Box 24 W53 (w.heap.size + 1) 0 ⟨#[]⟩ ⟨#[]⟩) := by rw [hW53]; exact box_others BB_52.out (by omega)
                have BC_53 : Hid (Box 24 W53 HC N2 sx rx) := by rw [hW53]; exact box_others BC_52.out (by omega)
                have BD_53 : Hid (Box 24 W53 HD M2 tx qx) := by rw [hW53]; exact box_others BD_52.out (by omega)
                have O1_53 : Hid (OwnI 3 W53 HL1 (.slice (some ⟨HL1, 0, none⟩) 0 0) []) := by rw [hW53]; exact own_sets O1_52.out (by omega)
                clear RD_52 GR_52 BA_52 BB_52 BC_52 BD_52 O1_52
                rw [← hW53]
                clear hW53
                refine hK _ _ ⟨(Box.c BC_53.out).1, (Box.c BC_53.out).2.1, (Box.c BC_53.out).2.2, (Box.c BD_53.out).1, (Box.c BD_53.out).2.1, (Box.c BD_53.out).2.2⟩ ?_
                clear hK K
                repeat (go_big_quiet_step (fail))
                refine wpQuiet_nil ?_
                refine ⟨?_, ?_⟩
                · intro K hK
                  go_wp2_with fail
                  obtain ⟨VB3, hV⟩ : ∃ QZ, QZ = W53.alloc (.cells #[] 3) := ⟨_, rfl⟩
                  obtain ⟨HL3, hHL⟩ : ∃ QZ, QZ = W53.heap.size := ⟨_, rfl⟩
                  have hba : Below W53.heap.size W53 VB3 := by rw [hV]; exact (Below.refl _ _).alloc (Nat.le_refl _) _
                  have hLR3 : R < HL3 ∧ w.heap.size + 1 < HL3 := by rw [hHL]; exact ⟨RD_53.out.lt, BB_53.out.lt⟩
                  have O3_54 : Hid (OwnI 3 VB3 HL3 (.slice (some ⟨HL3, 0, none⟩) 0 0) []) := by rw [hV, hHL]; exact empty_at W53
                  have O1_54 : Hid (OwnI 3 VB3 HL1 (.slice (some ⟨HL1, 0, none⟩) 0 0) []) := O1_53.out.below hba (Nat.le_refl _)
                  have hrd := rd_below RD_53.out hba RD_53.out.lt
                  have hg : W53.grownBy VB3 (some R) := grown_of_below hba
                  clear hba
                  have RD_54 := Lib.hid hrd
                  have GR_54 := Lib.hid (grown_trans GR_53.out hg)
                  have BA_54 := Lib.hid (Box.kept (row := some R) BA_53.out hg (by simp; omega))
                  have BB_54 := Lib.hid (Box.kept (row := some R) BB_53.out hg (by simp; omega))
                  have BC_54 := Lib.hid (Box.kept (row := some R) BC_53.out hg (by simp; omega))
                  have BD_54 := Lib.hid (Box.kept (row := some R) BD_53.out hg (by simp; omega))
                  clear hrd hg
                  clear RD_53 GR_53 BA_53 BB_53 BC_53 BD_53 O1_53
                  rw [← hV, ← hHL]
                  clear hV hHL
                  refine hK _ _ ⟨(Box.c BC_54.out).1, (Box.c BC_54.out).2.1, (Box.c BC_54.out).2.2, (Box.c BD_54.out).1, (Box.c BD_54.out).2.1, (Box.c BD_54.out).2.2⟩ ?_
                  clear hK K
                  repeat (go_big_quiet_step (fail))
                  refine wpQuiet_nil ?_
                  have BZ := BB_54.out
                  obtain ⟨z0, z1, z2⟩ := Box.c BZ
                  have f0 := Box.free BZ 0
                  have f1 := Box.free BZ 1
                  have f2 := Box.free BZ 2
                  clear BZ
                  intro K hK
                  go_wp2_with fail
                  clear z0 z1 z2 f0 f1 f2
                  obtain ⟨W55, hW55⟩ : ∃ QZ, QZ = (((VB3.setCell ⟨w.heap.size + 1, 0, none⟩ (.int .i64 M2)).setCell ⟨w.heap.size + 1, 1, none⟩ (.string tx)).setCell ⟨w.heap.size + 1, 2, none⟩ (.string qx)) := ⟨_, rfl⟩
                  have RD_55 : Hid (Rd W55 R ao len cap (p2 + 1)) := by rw [hW55]; exact rd_sets RD_54.out (by omega)
                  have GR_55 : Hid (w.grownBy W55 (some R)) := by rw [hW55]; exact grown_sets GR_54.out (by omega)
                  have BA_55 : Hid (Box 24 W55 w.heap.size N2 sx rx) := by rw [hW55]; exact box_others BA_54.out (by omega)
                  have BB_55 : Hid (Box 24 W55 (w.heap.size + 1) M2 tx qx) := by rw [hW55]; exact ((Box.set0 BB_54.out M2).set1 tx).set2 qx
                  have BC_55 : Hid (Box 24 W55 HC N2 sx rx) := by rw [hW55]; exact box_others BC_54.out (by omega)
                  have BD_55 : Hid (Box 24 W55 HD M2 tx qx) := by rw [hW55]; exact box_others BD_54.out (by omega)
                  have O1_55 : Hid (OwnI 3 W55 HL1 (.slice (some ⟨HL1, 0, none⟩) 0 0) []) := by rw [hW55]; exact own_sets O1_54.out (by omega)
                  have O3_55 : Hid (OwnI 3 W55 HL3 (.slice (some ⟨HL3, 0, none⟩) 0 0) []) := by rw [hW55]; exact own_sets O3_54.out (by omega)
                  clear RD_54 GR_54 BA_54 BB_54 BC_54 BD_54 O1_54 O3_54
                  rw [← hW55]
                  clear hW55
                  refine hK _ _ ⟨(Box.c BC_55.out).1, (Box.c BC_55.out).2.1, (Box.c BC_55.out).2.2, (Box.c BD_55.out).1, (Box.c BD_55.out).2.1, (Box.c BD_55.out).2.2⟩ ?_
                  clear hK K
                  repeat (go_big_quiet_step (fail))
                  refine wpQuiet_nil ?_
                  clear q0 q1 q2 q3 q4 q5 hne
                  have HF := Lib.hid (show _ ∧ _ from ⟨Box.c BA_55.out, Box.c BB_55.out⟩)
                  have RES := Lib.hid (show _ ∧ _ ∧ _ ∧ _ from ⟨O1_55.out.mono (show w.heap.size ≤ HL1 by omega), O3_55.out.mono (show w.heap.size ≤ HL3 by omega), RD_55.out, GR_55.out⟩)
                  clear RD_55 GR_55 BA_55 BB_55 BC_55 BD_55 O1_55 O3_55
                  go_wp2
                  exact bodyPost_ret (v := .tuple #[.agg #[.int .i64 N2, .string sx, .string rx], .slice (some ⟨HL1, 0, none⟩) 0 0, .agg #[.int .i64 M2, .string tx, .string qx], .slice (some ⟨HL3, 0, none⟩) 0 0]) (by simp [results, Tryd.results62, go_sem, HF.out.1.1, HF.out.1.2.1, HF.out.1.2.2, HF.out.2.1, HF.out.2.2.1, HF.out.2.2.2]) rfl ⟨N2, sx, rx, _, [], M2, tx, qx, _, [], _, rfl, ⟨hnw, hs100, by omega⟩, HMQ.out, ⟨by decide, Nearly.any _⟩, ⟨by decide, Nearly.any _⟩, RES.out.1, RES.out.2.1, RES.out.2.2.1, HPP.out, RES.out.2.2.2⟩
                · have BZ := BB_53.out
                  obtain ⟨z0, z1, z2⟩ := Box.c BZ
                  have f0 := Box.free BZ 0
                  have f1 := Box.free BZ 1
                  have f2 := Box.free BZ 2
                  clear BZ
                  intro K hK
                  go_wp2_with fail
                  clear z0 z1 z2 f0 f1 f2
                  obtain ⟨W54, hW54⟩ : ∃ QZ, QZ = (((W53.setCell ⟨w.heap.size + 1, 0, none⟩ (.int .i64 M2)).setCell ⟨w.heap.size + 1, 1, none⟩ (.string tx)).setCell ⟨w.heap.size + 1, 2, none⟩ (.string qx)) := ⟨_, rfl⟩
                  have RD_54 : Hid (Rd W54 R ao len cap (p2 + 1)) := by rw [hW54]; exact rd_sets RD_53.out (by omega)
                  have GR_54 : Hid (w.grownBy W54 (some R)) := by rw [hW54]; exact grown_sets GR_53.out (by omega)
                  have BA_54 : Hid (Box 24 W54 w.heap.size N2 sx rx) := by rw [hW54]; exact box_others BA_53.out (by omega)
                  have BB_54 : Hid (Box 24 W54 (w.heap.size + 1) M2 tx qx) := by rw [hW54]; exact ((Box.set0 BB_53.out M2).set1 tx).set2 qx
                  have BC_54 : Hid (Box 24 W54 HC N2 sx rx) := by rw [hW54]; exact box_others BC_53.out (by omega)
                  have BD_54 : Hid (Box 24 W54 HD M2 tx qx) := by rw [hW54]; exact box_others BD_53.out (by omega)
                  have O1_54 : Hid (OwnI 3 W54 HL1 (.slice (some ⟨HL1, 0, none⟩) 0 0) []) := by rw [hW54]; exact own_sets O1_53.out (by omega)
                  clear RD_53 GR_53 BA_53 BB_53 BC_53 BD_53 O1_53
                  rw [← hW54]
                  clear hW54
                  refine hK _ _ ⟨(Box.c BC_54.out).1, (Box.c BC_54.out).2.1, (Box.c BC_54.out).2.2, (Box.c BD_54.out).1, (Box.c BD_54.out).2.1, (Box.c BD_54.out).2.2⟩ ?_
                  clear hK K
                  repeat (go_big_quiet_step (fail))
                  refine wpQuiet_nil ?_
                  intro K hK
                  go_wp2_with fail
                  obtain ⟨VB3, hV⟩ : ∃ QZ, QZ = W54.alloc (.cells #[] 3) := ⟨_, rfl⟩
                  obtain ⟨HL3, hHL⟩ : ∃ QZ, QZ = W54.heap.size := ⟨_, rfl⟩
                  have hba : Below W54.heap.size W54 VB3 := by rw [hV]; exact (Below.refl _ _).alloc (Nat.le_refl _) _
                  have hLR3 : R < HL3 ∧ w.heap.size + 1 < HL3 := by rw [hHL]; exact ⟨RD_54.out.lt, BB_54.out.lt⟩
                  have O3_55 : Hid (OwnI 3 VB3 HL3 (.slice (some ⟨HL3, 0, none⟩) 0 0) []) := by rw [hV, hHL]; exact empty_at W54
                  have O1_55 : Hid (OwnI 3 VB3 HL1 (.slice (some ⟨HL1, 0, none⟩) 0 0) []) := O1_54.out.below hba (Nat.le_refl _)
                  have hrd := rd_below RD_54.out hba RD_54.out.lt
                  have hg : W54.grownBy VB3 (some R) := grown_of_below hba
                  clear hba
                  have RD_55 := Lib.hid hrd
                  have GR_55 := Lib.hid (grown_trans GR_54.out hg)
                  have BA_55 := Lib.hid (Box.kept (row := some R) BA_54.out hg (by simp; omega))
                  have BB_55 := Lib.hid (Box.kept (row := some R) BB_54.out hg (by simp; omega))
                  have BC_55 := Lib.hid (Box.kept (row := some R) BC_54.out hg (by simp; omega))
                  have BD_55 := Lib.hid (Box.kept (row := some R) BD_54.out hg (by simp; omega))
                  clear hrd hg
                  clear RD_54 GR_54 BA_54 BB_54 BC_54 BD_54 O1_54
                  rw [← hV, ← hHL]
                  clear hV hHL
                  refine hK _ _ ⟨(Box.c BC_55.out).1, (Box.c BC_55.out).2.1, (Box.c BC_55.out).2.2, (Box.c BD_55.out).1, (Box.c BD_55.out).2.1, (Box.c BD_55.out).2.2⟩ ?_
                  clear hK K
                  repeat (go_big_quiet_step (fail))
                  refine wpQuiet_nil ?_
                  clear q0 q1 q2 q3 q4 q5 hne
                  have HF := Lib.hid (show _ ∧ _ from ⟨Box.c BA_55.out, Box.c BB_55.out⟩)
                  have RES := Lib.hid (show _ ∧ _ ∧ _ ∧ _ from ⟨O1_55.out.mono (show w.heap.size ≤ HL1 by omega), O3_55.out.mono (show w.heap.size ≤ HL3 by omega), RD_55.out, GR_55.out⟩)
                  clear RD_55 GR_55 BA_55 BB_55 BC_55 BD_55 O1_55 O3_55
                  go_wp2
                  exact bodyPost_ret (v := .tuple #[.agg #[.int .i64 N2, .string sx, .string rx], .slice (some ⟨HL1, 0, none⟩) 0 0, .agg #[.int .i64 M2, .string tx, .string qx], .slice (some ⟨HL3, 0, none⟩) 0 0]) (by simp [results, Tryd.results62, go_sem, HF.out.1.1, HF.out.1.2.1, HF.out.1.2.2, HF.out.2.1, HF.out.2.2.1, HF.out.2.2.2]) rfl ⟨N2, sx, rx, _, [], M2, tx, qx, _, [], _, rfl, ⟨hnw, hs100, by omega⟩, HMQ.out, ⟨by decide, Nearly.any _⟩, ⟨by decide, Nearly.any _⟩, RES.out.1, RES.out.2.1, RES.out.2.2.1, HPP.out, RES.out.2.2.2⟩
            · intro K hK
              go_wp2_with fail
              obtain ⟨VB3, hV⟩ : ∃ QZ, QZ = (W20.alloc (.cells #[] 3)).drew := ⟨_, rfl⟩
              obtain ⟨HL3, hHL⟩ : ∃ QZ, QZ = W20.heap.size := ⟨_, rfl⟩
              have hba : Below W20.heap.size W20.drew VB3 := by rw [hV]; exact Below.trans (b := W20) ⟨rfl, rfl, rfl, Nat.le_refl _, fun _ _ => rfl⟩ ((Below.refl W20.heap.size W20).alloc (Nat.le_refl _) _).drew
              have hLR3 : R < HL3 ∧ w.heap.size + 1 < HL3 := by rw [hHL]; exact ⟨RD_51.out.lt, BB_51.out.lt⟩
              have O3_52 : Hid (OwnI 3 VB3 HL3 (.slice (some ⟨HL3, 0, none⟩) 0 0) []) := by rw [hV, hHL]; exact OwnI.below (empty_at W20) (Below.refl _ _).drew (Nat.le_refl _)
              have hrd := rd_below RD_51.out hba RD_51.out.lt
              have hg : W20.drew.grownBy VB3 (some R) := grown_of_below hba
              clear hba
              have RD_52 := Lib.hid hrd
              have GR_52 := Lib.hid (grown_trans GR_51.out hg)
              have BA_52 := Lib.hid (Box.kept (row := some R) BA_51.out hg (by simp; omega))
              have BB_52 := Lib.hid (Box.kept (row := some R) BB_51.out hg (by simp; omega))
              have BC_52 := Lib.hid (Box.kept (row := some R) BC_51.out hg (by simp; omega))
              have BD_52 := Lib.hid (Box.kept (row := some R) BD_51.out hg (by simp; omega))
              clear hrd hg
              clear RD_51 GR_51 BA_51 BB_51 BC_51 BD_51
              rw [← hV, ← hHL]
              clear hV hHL
              refine hK _ _ ⟨(Box.c BC_52.out).1, (Box.c BC_52.out).2.1, (Box.c BC_52.out).2.2, (Box.c BD_52.out).1, (Box.c BD_52.out).2.1, (Box.c BD_52.out).2.2⟩ ?_
              clear hK K
              repeat (go_big_quiet_step (fail))
              refine wpQuiet_nil ?_
              refine ⟨?_, ?_⟩
              · intro K hK
                go_wp2_with fail
                obtain ⟨VB1, hV⟩ : ∃ QZ, QZ = VB3.alloc (.cells #[] 3) := ⟨_, rfl⟩
                obtain ⟨HL1, hHL⟩ : ∃ QZ, QZ = VB3.heap.size := ⟨_, rfl⟩
                have hba : Below VB3.heap.size VB3 VB1 := by rw [hV]; exact (Below.refl _ _).alloc (Nat.le_refl _) _
                have hLR1 : R < HL1 ∧ w.heap.size + 1 < HL1 := by rw [hHL]; exact ⟨RD_52.out.lt, BB_52.out.lt⟩
                have O1_53 : Hid (OwnI 3 VB1 HL1 (.slice (some ⟨HL1, 0, none⟩) 0 0) []) := by rw [hV, hHL]; exact empty_at VB3
                have O3_53 : Hid (OwnI 3 VB1 HL3 (.slice (some ⟨HL3, 0, none⟩) 0 0) []) := O3_52.out.below hba (Nat.le_refl _)
                have hrd := rd_below RD_52.out hba RD_52.out.lt
                have hg : VB3.grownBy VB1 (some R) := grown_of_below hba
                clear hba
                have RD_53 := Lib.hid hrd
                have GR_53 := Lib.hid (grown_trans GR_52.out hg)
                have BA_53 := Lib.hid (Box.kept (row := some R) BA_52.out hg (by simp; omega))
                have BB_53 := Lib.hid (Box.kept (row := some R) BB_52.out hg (by simp; omega))
                have BC_53 := Lib.hid (Box.kept (row := some R) BC_52.out hg (by simp; omega))
                have BD_53 := Lib.hid (Box.kept (row := some R) BD_52.out hg (by simp; omega))
                clear hrd hg
                clear RD_52 GR_52 BA_52 BB_52 BC_52 BD_52 O3_52
                rw [← hV, ← hHL]
                clear hV hHL
                refine hK _ _ ⟨(Box.c BC_53.out).1, (Box.c BC_53.out).2.1, (Box.c BC_53.out).2.2, (Box.c BD_53.out).1, (Box.c BD_53.out).2.1, (Box.c BD_53.out).2.2⟩ ?_
                clear hK K
                repeat (go_big_quiet_step (fail))
                refine wpQuiet_nil ?_
                have BZ := BA_53.out
                obtain ⟨z0, z1, z2⟩ := Box.c BZ
                have f0 := Box.free BZ 0
                have f1 := Box.free BZ 1
                have f2 := Box.free BZ 2
                clear BZ
                intro K hK
                go_wp2_with fail
                clear z0 z1 z2 f0 f1 f2
                obtain ⟨W54, hW54⟩ : ∃ QZ, QZ = (((VB1.setCell ⟨w.heap.size, 0, none⟩ (.int .i64 N2)).setCell ⟨w.heap.size, 1, none⟩ (.string sx)).setCell ⟨w.heap.size, 2, none⟩ (.string rx)) := ⟨_, rfl⟩
                have RD_54 : Hid (Rd W54 R ao len cap (p2 + 1)) := by rw [hW54]; exact rd_sets RD_53.out (by omega)
                have GR_54 : Hid (w.grownBy W54 (some R)) := by rw [hW54]; exact grown_sets GR_53.out (by omega)
                have BA_54 : Hid (Box 24 W54 w.heap.size N2 sx rx) := by rw [hW54]; exact ((Box.set0 BA_53.out N2).set1 sx).set2 rx
                have BB_54 : Hid (Box 24 W54 (w.heap.size + 1) 0 ⟨#[]⟩ ⟨#[]⟩) := by rw [hW54]; exact box_others BB_53.out (by omega)
                have BC_54 : Hid (Box 24 W54 HC N2 sx rx) := by rw [hW54]; exact box_others BC_53.out (by omega)
                have BD_54 : Hid (Box 24 W54 HD M2 tx qx) := by rw [hW54]; exact box_others BD_53.out (by omega)
                have O3_54 : Hid (OwnI 3 W54 HL3 (.slice (some ⟨HL3, 0, none⟩) 0 0) []) := by rw [hW54]; exact own_sets O3_53.out (by omega)
                have O1_54 : Hid (OwnI 3 W54 HL1 (.slice (some ⟨HL1, 0, none⟩) 0 0) []) := by rw [hW54]; exact own_sets O1_53.out (by omega)
                clear RD_53 GR_53 BA_53 BB_53 BC_53 BD_53 O3_53 O1_53
                rw [← hW54]
                clear hW54
                refine hK _ _ ⟨(Box.c BC_54.out).1, (Box.c BC_54.out).2.1, (Box.c BC_54.out).2.2, (Box.c BD_54.out).1, (Box.c BD_54.out).2.1, (Box.c BD_54.out).2.2⟩ ?_
                clear hK K
                repeat (go_big_quiet_step (fail))
                refine wpQuiet_nil ?_
                have BZ := BB_54.out
                obtain ⟨z0, z1, z2⟩ := Box.c BZ
                have f0 := Box.free BZ 0
                have f1 := Box.free BZ 1
                have f2 := Box.free BZ 2
                clear BZ
                intro K hK
                go_wp2_with fail
                clear z0 z1 z2 f0 f1 f2
                obtain ⟨W55, hW55⟩ : ∃ QZ, QZ = (((W54.setCell ⟨w.heap.size + 1, 0, none⟩ (.int .i64 M2)).setCell ⟨w.heap.size + 1, 1, none⟩ (.string tx)).setCell ⟨w.heap.size + 1, 2, none⟩ (.string qx)) := ⟨_, rfl⟩
                have RD_55 : Hid (Rd W55 R ao len cap (p2 + 1)) := by rw [hW55]; exact rd_sets RD_54.out (by omega)
                have GR_55 : Hid (w.grownBy W55 (some R)) := by rw [hW55]; exact grown_sets GR_54.out (by omega)
                have BA_55 : Hid (Box 24 W55 w.heap.size N2 sx rx) := by rw [hW55]; exact box_others BA_54.out (by omega)
                have BB_55 : Hid (Box 24 W55 (w.heap.size + 1) M2 tx qx) := by rw [hW55]; exact ((Box.set0 BB_54.out M2).set1 tx).set2 qx
                have BC_55 : Hid (Box 24 W55 HC N2 sx rx) := by rw [hW55]; exact box_others BC_54.out (by omega)
                have BD_55 : Hid (Box 24 W55 HD M2 tx qx) := by rw [hW55]; exact box_others BD_54.out (by omega)
                have O3_55 : Hid (OwnI 3 W55 HL3 (.slice (some ⟨HL3, 0, none⟩) 0 0) []) := by rw [hW55]; exact own_sets O3_54.out (by omega)
                have O1_55 : Hid (OwnI 3 W55 HL1 (.slice (some ⟨HL1, 0, none⟩) 0 0) []) := by rw [hW55]; exact own_sets O1_54.out (by omega)
                clear RD_54 GR_54 BA_54 BB_54 BC_54 BD_54 O3_54 O1_54
                rw [← hW55]
                clear hW55
                refine hK _ _ ⟨(Box.c BC_55.out).1, (Box.c BC_55.out).2.1, (Box.c BC_55.out).2.2, (Box.c BD_55.out).1, (Box.c BD_55.out).2.1, (Box.c BD_55.out).2.2⟩ ?_
                clear hK K
                repeat (go_big_quiet_step (fail))
                refine wpQuiet_nil ?_
                clear q0 q1 q2 q3 q4 q5 hne
                have HF := Lib.hid (show _ ∧ _ from ⟨Box.c BA_55.out, Box.c BB_55.out⟩)
                have RES := Lib.hid (show _ ∧ _ ∧ _ ∧ _ from ⟨O1_55.out.mono (show w.heap.size ≤ HL1 by omega), O3_55.out.mono (show w.heap.size ≤ HL3 by omega), RD_55.out, GR_55.out⟩)
                clear RD_55 GR_55 BA_55 BB_55 BC_55 BD_55 O3_55 O1_55
                go_wp2
                exact bodyPost_ret (v := .tuple #[.agg #[.int .i64 N2, .string sx, .string rx], .slice (some ⟨HL1, 0, none⟩) 0 0, .agg #[.int .i64 M2, .string tx, .string qx], .slice (some ⟨HL3, 0, none⟩) 0 0]) (by simp [results, Tryd.results62, go_sem, HF.out.1.1, HF.out.1.2.1, HF.out.1.2.2, HF.out.2.1, HF.out.2.2.1, HF.out.2.2.2]) rfl ⟨N2, sx, rx, _, [], M2, tx, qx, _, [], _, rfl, ⟨hnw, hs100, by omega⟩, HMQ.out, ⟨by decide, Nearly.any _⟩, ⟨by decide, Nearly.any _⟩, RES.out.1, RES.out.2.1, RES.out.2.2.1, HPP.out, RES.out.2.2.2⟩
              · have BZ := BA_52.out
                obtain ⟨z0, z1, z2⟩ := Box.c BZ
                have f0 := Box.free BZ 0
                have f1 := Box.free BZ 1
                have f2 := Box.free BZ 2
                clear BZ
                intro K hK
                go_wp2_with fail
                clear z0 z1 z2 f0 f1 f2
                obtain ⟨W53, hW53⟩ : ∃ QZ, QZ = (((VB3.setCell ⟨w.heap.size, 0, none⟩ (.int .i64 N2)).setCell ⟨w.heap.size, 1, none⟩ (.string sx)).setCell ⟨w.heap.size, 2, none⟩ (.string rx)) := ⟨_, rfl⟩
                have RD_53 : Hid (Rd W53 R ao len cap (p2 + 1)) := by rw [hW53]; exact rd_sets RD_52.out (by omega)
                have GR_53 : Hid (w.grownBy W53 (some R)) := by rw [hW53]; exact grown_sets GR_52.out (by omega)
                have BA_53 : Hid (Box 24 W53 w.heap.size N2 sx rx) := by rw [hW53]; exact ((Box.set0 BA_52.out N2).set1 sx).set2 rx
                have BB_53 : Hid (Box 24 W53 (w.heap.size + 1) 0 ⟨#[]⟩ ⟨#[]⟩) := by rw [hW53]; exact box_others BB_52.out (by omega)
                have BC_53 : Hid (Box 24 W53 HC N2 sx rx) := by rw [hW53]; exact box_others BC_52.out (by omega)
                have BD_53 : Hid (Box 24 W53 HD M2 tx qx) := by rw [hW53]; exact box_others BD_52.out (by omega)
                have O3_53 : Hid (OwnI 3 W53 HL3 (.slice (some ⟨HL3, 0, none⟩) 0 0) []) := by rw [hW53]; exact own_sets O3_52.out (by omega)
                clear RD_52 GR_52 BA_52 BB_52 BC_52 BD_52 O3_52
                rw [← hW53]
                clear hW53
                refine hK _ _ ⟨(Box.c BC_53.out).1, (Box.c BC_53.out).2.1, (Box.c BC_53.out).2.2, (Box.c BD_53.out).1, (Box.c BD_53.out).2.1, (Box.c BD_53.out).2.2⟩ ?_
                clear hK K
                repeat (go_big_quiet_step (fail))
                refine wpQuiet_nil ?_
                intro K hK
                go_wp2_with fail
                obtain ⟨VB1, hV⟩ : ∃ QZ, QZ = W53.alloc (.cells #[] 3) := ⟨_, rfl⟩
                obtain ⟨HL1, hHL⟩ : ∃ QZ, QZ = W53.heap.size := ⟨_, rfl⟩
                have hba : Below W53.heap.size W53 VB1 := by rw [hV]; exact (Below.refl _ _).alloc (Nat.le_refl _) _
                have hLR1 : R < HL1 ∧ w.heap.size + 1 < HL1 := by rw [hHL]; exact ⟨RD_53.out.lt, BB_53.out.lt⟩
                have O1_54 : Hid (OwnI 3 VB1 HL1 (.slice (some ⟨HL1, 0, none⟩) 0 0) []) := by rw [hV, hHL]; exact empty_at W53
                have O3_54 : Hid (OwnI 3 VB1 HL3 (.slice (some ⟨HL3, 0, none⟩) 0 0) []) := O3_53.out.below hba (Nat.le_refl _)
                have hrd := rd_below RD_53.out hba RD_53.out.lt
                have hg : W53.grownBy VB1 (some R) := grown_of_below hba
                clear hba
                have RD_54 := Lib.hid hrd
                have GR_54 := Lib.hid (grown_trans GR_53.out hg)
                have BA_54 := Lib.hid (Box.kept (row := some R) BA_53.out hg (by simp; omega))
                have BB_54 := Lib.hid (Box.kept (row := some R) BB_53.out hg (by simp; omega))
                have BC_54 := Lib.hid (Box.kept (row := some R) BC_53.out hg (by simp; omega))
                have BD_54 := Lib.hid (Box.kept (row := some R) BD_53.out hg (by simp; omega))
                clear hrd hg
                clear RD_53 GR_53 BA_53 BB_53 BC_53 BD_53 O3_53
                rw [← hV, ← hHL]
                clear hV hHL
                refine hK _ _ ⟨(Box.c BC_54.out).1, (Box.c BC_54.out).2.1, (Box.c BC_54.out).2.2, (Box.c BD_54.out).1, (Box.c BD_54.out).2.1, (Box.c BD_54.out).2.2⟩ ?_
                clear hK K
                repeat (go_big_quiet_step (fail))
                refine wpQuiet_nil ?_
                have BZ := BB_54.out
                obtain ⟨z0, z1, z2⟩ := Box.c BZ
                have f0 := Box.free BZ 0
                have f1 := Box.free BZ 1
                have f2 := Box.free BZ 2
                clear BZ
                intro K hK
                go_wp2_with fail
                clear z0 z1 z2 f0 f1 f2
                obtain ⟨W55, hW55⟩ : ∃ QZ, QZ = (((VB1.setCell ⟨w.heap.size + 1, 0, none⟩ (.int .i64 M2)).setCell ⟨w.heap.size + 1, 1, none⟩ (.string tx)).setCell ⟨w.heap.size + 1, 2, none⟩ (.string qx)) := ⟨_, rfl⟩
                have RD_55 : Hid (Rd W55 R ao len cap (p2 + 1)) := by rw [hW55]; exact rd_sets RD_54.out (by omega)
                have GR_55 : Hid (w.grownBy W55 (some R)) := by rw [hW55]; exact grown_sets GR_54.out (by omega)
                have BA_55 : Hid (Box 24 W55 w.heap.size N2 sx rx) := by rw [hW55]; exact box_others BA_54.out (by omega)
                have BB_55 : Hid (Box 24 W55 (w.heap.size + 1) M2 tx qx) := by rw [hW55]; exact ((Box.set0 BB_54.out M2).set1 tx).set2 qx
                have BC_55 : Hid (Box 24 W55 HC N2 sx rx) := by rw [hW55]; exact box_others BC_54.out (by omega)
                have BD_55 : Hid (Box 24 W55 HD M2 tx qx) := by rw [hW55]; exact box_others BD_54.out (by omega)
                have O3_55 : Hid (OwnI 3 W55 HL3 (.slice (some ⟨HL3, 0, none⟩) 0 0) []) := by rw [hW55]; exact own_sets O3_54.out (by omega)
                have O1_55 : Hid (OwnI 3 W55 HL1 (.slice (some ⟨HL1, 0, none⟩) 0 0) []) := by rw [hW55]; exact own_sets O1_54.out (by omega)
                clear RD_54 GR_54 BA_54 BB_54 BC_54 BD_54 O3_54 O1_54
                rw [← hW55]
                clear hW55
                refine hK _ _ ⟨(Box.c BC_55.out).1, (Box.c BC_55.out).2.1, (Box.c BC_55.out).2.2, (Box.c BD_55.out).1, (Box.c BD_55.out).2.1, (Box.c BD_55.out).2.2⟩ ?_
                clear hK K
                repeat (go_big_quiet_step (fail))
                refine wpQuiet_nil ?_
                clear q0 q1 q2 q3 q4 q5 hne
                have HF := Lib.hid (show _ ∧ _ from ⟨Box.c BA_55.out, Box.c BB_55.out⟩)
                have RES := Lib.hid (show _ ∧ _ ∧ _ ∧ _ from ⟨O1_55.out.mono (show w.heap.size ≤ HL1 by omega), O3_55.out.mono (show w.heap.size ≤ HL3 by omega), RD_55.out, GR_55.out⟩)
                clear RD_55 GR_55 BA_55 BB_55 BC_55 BD_55 O3_55 O1_55
                go_wp2
                exact bodyPost_ret (v := .tuple #[.agg #[.int .i64 N2, .string sx, .string rx], .slice (some ⟨HL1, 0, none⟩) 0 0, .agg #[.int .i64 M2, .string tx, .string qx], .slice (some ⟨HL3, 0, none⟩) 0 0]) (by simp [results, Tryd.results62, go_sem, HF.out.1.1, HF.out.1.2.1, HF.out.1.2.2, HF.out.2.1, HF.out.2.2.1, HF.out.2.2.2]) rfl ⟨N2, sx, rx, _, [], M2, tx, qx, _, [], _, rfl, ⟨hnw, hs100, by omega⟩, HMQ.out, ⟨by decide, Nearly.any _⟩, ⟨by decide, Nearly.any _⟩, RES.out.1, RES.out.2.1, RES.out.2.2.1, HPP.out, RES.out.2.2.2⟩
            · have BZ : Box 24 W20 w.heap.size 0 ⟨#[]⟩ ⟨#[]⟩ := BA_51.out
              obtain ⟨z0, z1, z2⟩ := Box.c BZ
              have f0 := Box.free BZ 0
              have f1 := Box.free BZ 1
              have f2 := Box.free BZ 2
              clear BZ
              intro K hK
              go_wp2_with fail
              clear z0 z1 z2 f0 f1 f2
              obtain ⟨W52, hWf52⟩ : ∃ QZ, QZ = (((W20.setCell ⟨w.heap.size, 0, none⟩ (.int .i64 N2)).setCell ⟨w.heap.size, 1, none⟩ (.string sx)).setCell ⟨w.heap.size, 2, none⟩ (.string rx)).drew := ⟨_, rfl⟩
              have hW52 : W52 = (((W20.drew.setCell ⟨w.heap.size, 0, none⟩ (.int .i64 N2)).setCell ⟨w.heap.size, 1, none⟩ (.string sx)).setCell ⟨w.heap.size, 2, none⟩ (.string rx)) := hWf52
              have RD_52 : Hid (Rd W52 R ao len cap (p2 + 1)) := by rw [hW52]; exact rd_sets RD_51.out (by omega)
              have GR_52 : Hid (w.grownBy W52 (some R)) := by rw [hW52]; exact grown_sets GR_51.out (by omega)
              have BA_52 : Hid (Box 24 W52 w.heap.size N2 sx rx) := by rw [hW52]; exact ((Box.set0 BA_51.out N2).set1 sx).set2 rx
              have BB_52 : Hid (Box 24 W52 (w.heap.size + 1) 0 ⟨#[]⟩ ⟨#[]⟩) := by rw [hW52]; exact box_others BB_51.out (by omega)
              have BC_52 : Hid (Box 24 W52 HC N2 sx rx) := by rw [hW52]; exact box_others BC_51.out (by omega)
              have BD_52 : Hid (Box 24 W52 HD M2 tx qx) := by rw [hW52]; exact box_others BD_51.out (by omega)
              skip
              clear RD_51 GR_51 BA_51 BB_51 BC_51 BD_51
              clear hW52
              rw [← hWf52]
              clear hWf52
              refine hK _ _ ⟨(Box.c BC_52.out).1, (Box.c BC_52.out).2.1, (Box.c BC_52.out).2.2, (Box.c BD_52.out).1, (Box.c BD_52.out).2.1, (Box.c BD_52.out).2.2⟩ ?_
              clear hK K
              repeat (go_big_quiet_step (fail))
              refine wpQuiet_nil ?_
              refine ⟨?_, ?_⟩
              · intro K hK
                go_wp2_with fail
                obtain ⟨VB1, hV⟩ : ∃ QZ, QZ = W52.alloc (.cells #[] 3) := ⟨_, rfl⟩
                obtain ⟨HL1, hHL⟩ : ∃ QZ, QZ = W52.heap.size := ⟨_, rfl⟩
                have hba : Below W52.heap.size W52 VB1 := by rw [hV]; exact (Below.refl _ _).alloc (Nat.le_refl _) _
                have hLR1 : R < HL1 ∧ w.heap.size + 1 < HL1 := by rw [hHL]; exact ⟨RD_52.out.lt, BB_52.out.lt⟩
                have O1_53 : Hid (OwnI 3 VB1 HL1 (.slice (some ⟨HL1, 0, none⟩) 0 0) []) := by rw [hV, hHL]; exact empty_at W52
                have hrd := rd_below RD_52.out hba RD_52.out.lt
                have hg : W52.grownBy VB1 (some R) := grown_of_below hba
                clear hba
                have RD_53 := Lib.hid hrd
                have GR_53 := Lib.hid (grown_trans GR_52.out hg)
                have BA_53 := Lib.hid (Box.kept (row := some R) BA_52.out hg (by simp; omega))
                have BB_53 := Lib.hid (Box.kept (row := some R) BB_52.out hg (by simp; omega))
                have BC_53 := Lib.hid (Box.kept (row := some R) BC_52.out hg (by simp; omega))
                have BD_53 := Lib.hid (Box.kept (row := some R) BD_52.out hg (by simp; omega))
                clear hrd hg
                clear RD_52 GR_52 BA_52 BB_52 BC_52 BD_52
                rw [← hV, ← hHL]
                clear hV hHL
                refine hK _ _ ⟨(Box.c BC_53.out).1, (Box.c BC_53.out).2.1, (Box.c BC_53.out).2.2, (Box.c BD_53.out).1, (Box.c BD_53.out).2.1, (Box.c BD_53.out).2.2⟩ ?_
                clear hK K
                repeat (go_big_quiet_step (fail))
                refine wpQuiet_nil ?_
                refine ⟨?_, ?_⟩
                · intro K hK
                  go_wp2_with fail
                  obtain ⟨VB3, hV⟩ : ∃ QZ, QZ = VB1.alloc (.cells #[] 3) := ⟨_, rfl⟩
                  obtain ⟨HL3, hHL⟩ : ∃ QZ, QZ = VB1.heap.size := ⟨_, rfl⟩
                  have hba : Below VB1.heap.size VB1 VB3 := by rw [hV]; exact (Below.refl _ _).alloc (Nat.le_refl _) _
                  have hLR3 : R < HL3 ∧ w.heap.size + 1 < HL3 := by rw [hHL]; exact ⟨RD_53.out.lt, BB_53.out.lt⟩
                  have O3_54 : Hid (OwnI 3 VB3 HL3 (.slice (some ⟨HL3, 0, none⟩) 0 0) []) := by rw [hV, hHL]; exact empty_at VB1
                  have O1_54 : Hid (OwnI 3 VB3 HL1 (.slice (some ⟨HL1, 0, none⟩) 0 0) []) := O1_53.out.below hba (Nat.le_refl _)
                  have hrd := rd_below RD_53.out hba RD_53.out.lt
                  have hg : VB1.grownBy VB3 (some R) := grown_of_below hba
                  clear hba
                  have RD_54 := Lib.hid hrd
                  have GR_54 := Lib.hid (grown_trans GR_53.out hg)
                  have BA_54 := Lib.hid (Box.kept (row := some R) BA_53.out hg (by simp; omega))
                  have BB_54 := Lib.hid (Box.kept (row := some R) BB_53.out hg (by simp; omega))
                  have BC_54 := Lib.hid (Box.kept (row := some R) BC_53.out hg (by simp; omega))
                  have BD_54 := Lib.hid (Box.kept (row := some R) BD_53.out hg (by simp; omega))
                  clear hrd hg
                  clear RD_53 GR_53 BA_53 BB_53 BC_53 BD_53 O1_53
                  rw [← hV, ← hHL]
                  clear hV hHL
                  refine hK _ _ ⟨(Box.c BC_54.out).1, (Box.c BC_54.out).2.1, (Box.c BC_54.out).2.2, (Box.c BD_54.out).1, (Box.c BD_54.out).2.1, (Box.c BD_54.out).2.2⟩ ?_
                  clear hK K
                  repeat (go_big_quiet_step (fail))
                  refine wpQuiet_nil ?_
                  have BZ := BB_54.out
                  obtain ⟨z0, z1, z2⟩ := Box.c BZ
                  have f0 := Box.free BZ 0
                  have f1 := Box.free BZ 1
                  have f2 := Box.free BZ 2
                  clear BZ
                  intro K hK
                  go_wp2_with fail
                  clear z0 z1 z2 f0 f1 f2
                  obtain ⟨W55, hW55⟩ : ∃ QZ, QZ = (((VB3.setCell ⟨w.heap.size + 1, 0, none⟩ (.int .i64 M2)).setCell ⟨w.heap.size + 1, 1, none⟩ (.string tx)).setCell ⟨w.heap.size + 1, 2, none⟩ (.string qx)) := ⟨_, rfl⟩
                  have RD_55 : Hid (Rd W55 R ao len cap (p2 + 1)) := by rw [hW55]; exact rd_sets RD_54.out (by omega)
                  have GR_55 : Hid (w.grownBy W55 (some R)) := by rw [hW55]; exact grown_sets GR_54.out (by omega)
                  have BA_55 : Hid (Box 24 W55 w.heap.size N2 sx rx) := by rw [hW55]; exact box_others BA_54.out (by omega)
                  have BB_55 : Hid (Box 24 W55 (w.heap.size + 1) M2 tx qx) := by rw [hW55]; exact ((Box.set0 BB_54.out M2).set1 tx).set2 qx
                  have BC_55 : Hid (Box 24 W55 HC N2 sx rx) := by rw [hW55]; exact box_others BC_54.out (by omega)
                  have BD_55 : Hid (Box 24 W55 HD M2 tx qx) := by rw [hW55]; exact box_others BD_54.out (by omega)
                  have O1_55 : Hid (OwnI 3 W55 HL1 (.slice (some ⟨HL1, 0, none⟩) 0 0) []) := by rw [hW55]; exact own_sets O1_54.out (by omega)
                  have O3_55 : Hid (OwnI 3 W55 HL3 (.slice (some ⟨HL3, 0, none⟩) 0 0) []) := by rw [hW55]; exact own_sets O3_54.out (by omega)
                  clear RD_54 GR_54 BA_54 BB_54 BC_54 BD_54 O1_54 O3_54
                  rw [← hW55]
                  clear hW55
                  refine hK _ _ ⟨(Box.c BC_55.out).1, (Box.c BC_55.out).2.1, (Box.c BC_55.out).2.2, (Box.c BD_55.out).1, (Box.c BD_55.out).2.1, (Box.c BD_55.out).2.2⟩ ?_
                  clear hK K
                  repeat (go_big_quiet_step (fail))
                  refine wpQuiet_nil ?_
                  clear q0 q1 q2 q3 q4 q5 hne
                  have HF := Lib.hid (show _ ∧ _ from ⟨Box.c BA_55.out, Box.c BB_55.out⟩)
                  have RES := Lib.hid (show _ ∧ _ ∧ _ ∧ _ from ⟨O1_55.out.mono (show w.heap.size ≤ HL1 by omega), O3_55.out.mono (show w.heap.size ≤ HL3 by omega), RD_55.out, GR_55.out⟩)
                  clear RD_55 GR_55 BA_55 BB_55 BC_55 BD_55 O1_55 O3_55
                  go_wp2
                  exact bodyPost_ret (v := .tuple #[.agg #[.int .i64 N2, .string sx, .string rx], .slice (some ⟨HL1, 0, none⟩) 0 0, .agg #[.int .i64 M2, .string tx, .string qx], .slice (some ⟨HL3, 0, none⟩) 0 0]) (by simp [results, Tryd.results62, go_sem, HF.out.1.1, HF.out.1.2.1, HF.out.1.2.2, HF.out.2.1, HF.out.2.2.1, HF.out.2.2.2]) rfl ⟨N2, sx, rx, _, [], M2, tx, qx, _, [], _, rfl, ⟨hnw, hs100, by omega⟩, HMQ.out, ⟨by decide, Nearly.any _⟩, ⟨by decide, Nearly.any _⟩, RES.out.1, RES.out.2.1, RES.out.2.2.1, HPP.out, RES.out.2.2.2⟩
                · have BZ := BB_53.out
                  obtain ⟨z0, z1, z2⟩ := Box.c BZ
                  have f0 := Box.free BZ 0
                  have f1 := Box.free BZ 1
                  have f2 := Box.free BZ 2
                  clear BZ
                  intro K hK
                  go_wp2_with fail
                  clear z0 z1 z2 f0 f1 f2
                  obtain ⟨W54, hW54⟩ : ∃ QZ, QZ = (((VB1.setCell ⟨w.heap.size + 1, 0, none⟩ (.int .i64 M2)).setCell ⟨w.heap.size + 1, 1, none⟩ (.string tx)).setCell ⟨w.heap.size + 1, 2, none⟩ (.string qx)) := ⟨_, rfl⟩
                  have RD_54 : Hid (Rd W54 R ao len cap (p2 + 1)) := by rw [hW54]; exact rd_sets RD_53.out (by omega)
                  have GR_54 : Hid (w.grownBy W54 (some R)) := by rw [hW54]; exact grown_sets GR_53.out (by omega)
                  have BA_54 : Hid (Box 24 W54 w.heap.size N2 sx rx) := by rw [hW54]; exact box_others BA_53.out (by omega)
                  have BB_54 : Hid (Box 24 W54 (w.heap.size + 1) M2 tx qx) := by rw [hW54]; exact ((Box.set0 BB_53.out M2).set1 tx).set2 qx
                  have BC_54 : Hid (Box 24 W54 HC N2 sx rx) := by rw [hW54]; exact box_others BC_53.out (by omega)
                  have BD_54 : Hid (Box 24 W54 HD M2 tx qx) := by rw [hW54]; exact box_others BD_53.out (by omega)
                  have O1_54 : Hid (OwnI 3 W54 HL1 (.slice (some ⟨HL1, 0, none⟩) 0 0) []) := by rw [hW54]; exact own_sets O1_53.out (by omega)
                  clear RD_53 GR_53 BA_53 BB_53 BC_53 BD_53 O1_53
                  rw [← hW54]
                  clear hW54
                  refine hK _ _ ⟨(Box.c BC_54.out).1, (Box.c BC_54.out).2.1, (Box.c BC_54.out).2.2, (Box.c BD_54.out).1, (Box.c BD_54.out).2.1, (Box.c BD_54.out).2.2⟩ ?_
                  clear hK K
                  repeat (go_big_quiet_step (fail))
                  refine wpQuiet_nil ?_
                  intro K hK
                  go_wp2_with fail
                  obtain ⟨VB3, hV⟩ : ∃ QZ, QZ = W54.alloc (.cells #[] 3) := ⟨_, rfl⟩
                  obtain ⟨HL3, hHL⟩ : ∃ QZ, QZ = W54.heap.size := ⟨_, rfl⟩
                  have hba : Below W54.heap.size W54 VB3 := by rw [hV]; exact (Below.refl _ _).alloc (Nat.le_refl _) _
                  have hLR3 : R < HL3 ∧ w.heap.size + 1 < HL3 := by rw [hHL]; exact ⟨RD_54.out.lt, BB_54.out.lt⟩
                  have O3_55 : Hid (OwnI 3 VB3 HL3 (.slice (some ⟨HL3, 0, none⟩) 0 0) []) := by rw [hV, hHL]; exact empty_at W54
                  have O1_55 : Hid (OwnI 3 VB3 HL1 (.slice (some ⟨HL1, 0, none⟩) 0 0) []) := O1_54.out.below hba (Nat.le_refl _)
                  have hrd := rd_below RD_54.out hba RD_54.out.lt
                  have hg : W54.grownBy VB3 (some R) := grown_of_below hba
                  clear hba
                  have RD_55 := Lib.hid hrd
                  have GR_55 := Lib.hid (grown_trans GR_54.out hg)
                  have BA_55 := Lib.hid (Box.kept (row := some R) BA_54.out hg (by simp; omega))
                  have BB_55 := Lib.hid (Box.kept (row := some R) BB_54.out hg (by simp; omega))
                  have BC_55 := Lib.hid (Box.kept (row := some R) BC_54.out hg (by simp; omega))
                  have BD_55 := Lib.hid (Box.kept (row := some R) BD_54.out hg (by simp; omega))
                  clear hrd hg
                  clear RD_54 GR_54 BA_54 BB_54 BC_54 BD_54 O1_54
                  rw [← hV, ← hHL]
                  clear hV hHL
                  refine hK _ _ ⟨(Box.c BC_55.out).1, (Box.c BC_55.out).2.1, (Box.c BC_55.out).2.2, (Box.c BD_55.out).1, (Box.c BD_55.out).2.1, (Box.c BD_55.out).2.2⟩ ?_
                  clear hK K
                  repeat (go_big_quiet_step (fail))
                  refine wpQuiet_nil ?_
                  clear q0 q1 q2 q3 q4 q5 hne
                  have HF := Lib.hid (show _ ∧ _ from ⟨Box.c BA_55.out, Box.c BB_55.out⟩)
                  have RES := Lib.hid (show _ ∧ _ ∧ _ ∧ _ from ⟨O1_55.out.mono (show w.heap.size ≤ HL1 by omega), O3_55.out.mono (show w.heap.size ≤ HL3 by omega), RD_55.out, GR_55.out⟩)
                  clear RD_55 GR_55 BA_55 BB_55 BC_55 BD_55 O1_55 O3_55
                  go_wp2
                  exact bodyPost_ret (v := .tuple #[.agg #[.int .i64 N2, .string sx, .string rx], .slice (some ⟨HL1, 0, none⟩) 0 0, .agg #[.int .i64 M2, .string tx, .string qx], .slice (some ⟨HL3, 0, none⟩) 0 0]) (by simp [results, Tryd.results62, go_sem, HF.out.1.1, HF.out.1.2.1, HF.out.1.2.2, HF.out.2.1, HF.out.2.2.1, HF.out.2.2.2]) rfl ⟨N2, sx, rx, _, [], M2, tx, qx, _, [], _, rfl, ⟨hnw, hs100, by omega⟩, HMQ.out, ⟨by decide, Nearly.any _⟩, ⟨by decide, Nearly.any _⟩, RES.out.1, RES.out.2.1, RES.out.2.2.1, HPP.out, RES.out.2.2.2⟩
              · intro K hK
                go_wp2_with fail
                obtain ⟨VB3, hV⟩ : ∃ QZ, QZ = W52.alloc (.cells #[] 3) := ⟨_, rfl⟩
                obtain ⟨HL3, hHL⟩ : ∃ QZ, QZ = W52.heap.size := ⟨_, rfl⟩
                have hba : Below W52.heap.size W52 VB3 := by rw [hV]; exact (Below.refl _ _).alloc (Nat.le_refl _) _
                have hLR3 : R < HL3 ∧ w.heap.size + 1 < HL3 := by rw [hHL]; exact ⟨RD_52.out.lt, BB_52.out.lt⟩
                have O3_53 : Hid (OwnI 3 VB3 HL3 (.slice (some ⟨HL3, 0, none⟩) 0 0) []) := by rw [hV, hHL]; exact empty_at W52
                have hrd := rd_below RD_52.out hba RD_52.out.lt
                have hg : W52.grownBy VB3 (some R) := grown_of_below hba
                clear hba
                have RD_53 := Lib.hid hrd
                have GR_53 := Lib.hid (grown_trans GR_52.out hg)
                have BA_53 := Lib.hid (Box.kept (row := some R) BA_52.out hg (by simp; omega))
                have BB_53 := Lib.hid (Box.kept (row := some R) BB_52.out hg (by simp; omega))
                have BC_53 := Lib.hid (Box.kept (row := some R) BC_52.out hg (by simp; omega))
                have BD_53 := Lib.hid (Box.kept (row := some R) BD_52.out hg (by simp; omega))
                clear hrd hg
                clear RD_52 GR_52 BA_52 BB_52 BC_52 BD_52
                rw [← hV, ← hHL]
                clear hV hHL
                refine hK _ _ ⟨(Box.c BC_53.out).1, (Box.c BC_53.out).2.1, (Box.c BC_53.out).2.2, (Box.c BD_53.out).1, (Box.c BD_53.out).2.1, (Box.c BD_53.out).2.2⟩ ?_
                clear hK K
                repeat (go_big_quiet_step (fail))
                refine wpQuiet_nil ?_
                intro K hK
                go_wp2_with fail
                obtain ⟨VB1, hV⟩ : ∃ QZ, QZ = VB3.alloc (.cells #[] 3) := ⟨_, rfl⟩
                obtain ⟨HL1, hHL⟩ : ∃ QZ, QZ = VB3.heap.size := ⟨_, rfl⟩
                have hba : Below VB3.heap.size VB3 VB1 := by rw [hV]; exact (Below.refl _ _).alloc (Nat.le_refl _) _
                have hLR1 : R < HL1 ∧ w.heap.size + 1 < HL1 := by rw [hHL]; exact ⟨RD_53.out.lt, BB_53.out.lt⟩
                have O1_54 : Hid (OwnI 3 VB1 HL1 (.slice (some ⟨HL1, 0, none⟩) 0 0) []) := by rw [hV, hHL]; exact empty_at VB3
                have O3_54 : Hid (OwnI 3 VB1 HL3 (.slice (some ⟨HL3, 0, none⟩) 0 0) []) := O3_53.out.below hba (Nat.le_refl _)
                have hrd := rd_below RD_53.out hba RD_53.out.lt
                have hg : VB3.grownBy VB1 (some R) := grown_of_below hba
                clear hba
                have RD_54 := Lib.hid hrd
                have GR_54 := Lib.hid (grown_trans GR_53.out hg)
                have BA_54 := Lib.hid (Box.kept (row := some R) BA_53.out hg (by simp; omega))
                have BB_54 := Lib.hid (Box.kept (row := some R) BB_53.out hg (by simp; omega))
                have BC_54 := Lib.hid (Box.kept (row := some R) BC_53.out hg (by simp; omega))
                have BD_54 := Lib.hid (Box.kept (row := some R) BD_53.out hg (by simp; omega))
                clear hrd hg
                clear RD_53 GR_53 BA_53 BB_53 BC_53 BD_53 O3_53
                rw [← hV, ← hHL]
                clear hV hHL
                refine hK _ _ ⟨(Box.c BC_54.out).1, (Box.c BC_54.out).2.1, (Box.c BC_54.out).2.2, (Box.c BD_54.out).1, (Box.c BD_54.out).2.1, (Box.c BD_54.out).2.2⟩ ?_
                clear hK K
                repeat (go_big_quiet_step (fail))
                refine wpQuiet_nil ?_
                have BZ := BB_54.out
                obtain ⟨z0, z1, z2⟩ := Box.c BZ
                have f0 := Box.free BZ 0
                have f1 := Box.free BZ 1
                have f2 := Box.free BZ 2
                clear BZ
                intro K hK
                go_wp2_with fail
                clear z0 z1 z2 f0 f1 f2
                obtain ⟨W55, hW55⟩ : ∃ QZ, QZ = (((VB1.setCell ⟨w.heap.size + 1, 0, none⟩ (.int .i64 M2)).setCell ⟨w.heap.size + 1, 1, none⟩ (.string tx)).setCell ⟨w.heap.size + 1, 2, none⟩ (.string qx)) := ⟨_, rfl⟩
                have RD_55 : Hid (Rd W55 R ao len cap (p2 + 1)) := by rw [hW55]; exact rd_sets RD_54.out (by omega)
                have GR_55 : Hid (w.grownBy W55 (some R)) := by rw [hW55]; exact grown_sets GR_54.out (by omega)
                have BA_55 : Hid (Box 24 W55 w.heap.size N2 sx rx) := by rw [hW55]; exact box_others BA_54.out (by omega)
                have BB_55 : Hid (Box 24 W55 (w.heap.size + 1) M2 tx qx) := by rw [hW55]; exact ((Box.set0 BB_54.out M2).set1 tx).set2 qx
                have BC_55 : Hid (Box 24 W55 HC N2 sx rx) := by rw [hW55]; exact box_others BC_54.out (by omega)
                have BD_55 : Hid (Box 24 W55 HD M2 tx qx) := by rw [hW55]; exact box_others BD_54.out (by omega)
                have O3_55 : Hid (OwnI 3 W55 HL3 (.slice (some ⟨HL3, 0, none⟩) 0 0) []) := by rw [hW55]; exact own_sets O3_54.out (by omega)
                have O1_55 : Hid (OwnI 3 W55 HL1 (.slice (some ⟨HL1, 0, none⟩) 0 0) []) := by rw [hW55]; exact own_sets O1_54.out (by omega)
                clear RD_54 GR_54 BA_54 BB_54 BC_54 BD_54 O3_54 O1_54
                rw [← hW55]
                clear hW55
                refine hK _ _ ⟨(Box.c BC_55.out).1, (Box.c BC_55.out).2.1, (Box.c BC_55.out).2.2, (Box.c BD_55.out).1, (Box.c BD_55.out).2.1, (Box.c BD_55.out).2.2⟩ ?_
                clear hK K
                repeat (go_big_quiet_step (fail))
                refine wpQuiet_nil ?_
                clear q0 q1 q2 q3 q4 q5 hne
                have HF := Lib.hid (show _ ∧ _ from ⟨Box.c BA_55.out, Box.c BB_55.out⟩)
                have RES := Lib.hid (show _ ∧ _ ∧ _ ∧ _ from ⟨O1_55.out.mono (show w.heap.size ≤ HL1 by omega), O3_55.out.mono (show w.heap.size ≤ HL3 by omega), RD_55.out, GR_55.out⟩)
                clear RD_55 GR_55 BA_55 BB_55 BC_55 BD_55 O3_55 O1_55
                go_wp2
                exact bodyPost_ret (v := .tuple #[.agg #[.int .i64 N2, .string sx, .string rx], .slice (some ⟨HL1, 0, none⟩) 0 0, .agg #[.int .i64 M2, .string tx, .string qx], .slice (some ⟨HL3, 0, none⟩) 0 0]) (by simp [results, Tryd.results62, go_sem, HF.out.1.1, HF.out.1.2.1, HF.out.1.2.2, HF.out.2.1, HF.out.2.2.1, HF.out.2.2.2]) rfl ⟨N2, sx, rx, _, [], M2, tx, qx, _, [], _, rfl, ⟨hnw, hs100, by omega⟩, HMQ.out, ⟨by decide, Nearly.any _⟩, ⟨by decide, Nearly.any _⟩, RES.out.1, RES.out.2.1, RES.out.2.2.1, HPP.out, RES.out.2.2.2⟩
          · have n0 : ((v3 : Int) == 0) = false := by simp; omega
            have n1 : ((v3 : Int) == 1) = false := by simp; omega
            have n2 : ((v3 : Int) == 2) = false := by simp; omega
            have n3 : ((v3 : Int) == 3) = false := by simp; omega
            have RD_50 := Lib.hid ST20.out.rd
            have GR_50 := Lib.hid ST20.out.g
            have BA_50 := Lib.hid ST20.out.a
            have BB_50 := Lib.hid ST20.out.b
            have BC_50 := Lib.hid ST20.out.c
            have BD_50 := Lib.hid ST20.out.d
            have OA_50 := Lib.hid ST20.out.oa
            have OB_50 := Lib.hid ST20.out.ob
            have LAB := Lib.hid (show _ ∧ _ ∧ _ from ⟨ST20.out.la, ST20.out.lb, ST20.out.p⟩)
            have hh1 := ST20.out.h
            have hh2 := ST20.out.ba
            have hh3 := ST20.out.bb
            clear ST20
            have q0 : ∀ QQ : Wd (fun Q => Q.cell? ⟨HC, 0, none⟩ = some (.int .i64 N2) ∧ Q.cell? ⟨HC, 1, none⟩ = some (.string sx) ∧ Q.cell? ⟨HC, 2, none⟩ = some (.string rx) ∧ Q.cell? ⟨HD, 0, none⟩ = some (.int .i64 M2) ∧ Q.cell? ⟨HD, 1, none⟩ = some (.string tx) ∧ Q.cell? ⟨HD, 2, none⟩ = some (.string qx)), QQ.w.cell? ⟨HC, 0, none⟩ = some (.int .i64 N2) := fun QQ => QQ.ok.1
            have q1 : ∀ QQ : Wd (fun Q => Q.cell? ⟨HC, 0, none⟩ = some (.int .i64 N2) ∧ Q.cell? ⟨HC, 1, none⟩ = some (.string sx) ∧ Q.cell? ⟨HC, 2, none⟩ = some (.string rx) ∧ Q.cell? ⟨HD, 0, none⟩ = some (.int .i64 M2) ∧ Q.cell? ⟨HD, 1, none⟩ = some (.string tx) ∧ Q.cell? ⟨HD, 2, none⟩ = some (.string qx)), QQ.w.cell? ⟨HC, 1, none⟩ = some (.string sx) := fun QQ => QQ.ok.2.1
            have q2 : ∀ QQ : Wd (fun Q => Q.cell? ⟨HC, 0, none⟩ = some (.int .i64 N2) ∧ Q.cell? ⟨HC, 1, none⟩ = some (.string sx) ∧ Q.cell? ⟨HC, 2, none⟩ = some (.string rx) ∧ Q.cell? ⟨HD, 0, none⟩ = some (.int .i64 M2) ∧ Q.cell? ⟨HD, 1, none⟩ = some (.string tx) ∧ Q.cell? ⟨HD, 2, none⟩ = some (.string qx)), QQ.w.cell? ⟨HC, 2, none⟩ = some (.string rx) := fun QQ => QQ.ok.2.2.1
            have q3 : ∀ QQ : Wd (fun Q => Q.cell? ⟨HC, 0, none⟩ = some (.int .i64 N2) ∧ Q.cell? ⟨HC, 1, none⟩ = some (.string sx) ∧ Q.cell? ⟨HC, 2, none⟩ = some (.string rx) ∧ Q.cell? ⟨HD, 0, none⟩ = some (.int .i64 M2) ∧ Q.cell? ⟨HD, 1, none⟩ = some (.string tx) ∧ Q.cell? ⟨HD, 2, none⟩ = some (.string qx)), QQ.w.cell? ⟨HD, 0, none⟩ = some (.int .i64 M2) := fun QQ => QQ.ok.2.2.2.1
            have q4 : ∀ QQ : Wd (fun Q => Q.cell? ⟨HC, 0, none⟩ = some (.int .i64 N2) ∧ Q.cell? ⟨HC, 1, none⟩ = some (.string sx) ∧ Q.cell? ⟨HC, 2, none⟩ = some (.string rx) ∧ Q.cell? ⟨HD, 0, none⟩ = some (.int .i64 M2) ∧ Q.cell? ⟨HD, 1, none⟩ = some (.string tx) ∧ Q.cell? ⟨HD, 2, none⟩ = some (.string qx)), QQ.w.cell? ⟨HD, 1, none⟩ = some (.string tx) := fun QQ => QQ.ok.2.2.2.2.1
            have q5 : ∀ QQ : Wd (fun Q => Q.cell? ⟨HC, 0, none⟩ = some (.int .i64 N2) ∧ Q.cell? ⟨HC, 1, none⟩ = some (.string sx) ∧ Q.cell? ⟨HC, 2, none⟩ = some (.string rx) ∧ Q.cell? ⟨HD, 0, none⟩ = some (.int .i64 M2) ∧ Q.cell? ⟨HD, 1, none⟩ = some (.string tx) ∧ Q.cell? ⟨HD, 2, none⟩ = some (.string qx)), QQ.w.cell? ⟨HD, 2, none⟩ = some (.string qx) := fun QQ => QQ.ok.2.2.2.2.2
            have hne : Nonempty (Wd (fun Q => Q.cell? ⟨HC, 0, none⟩ = some (.int .i64 N2) ∧ Q.cell? ⟨HC, 1, none⟩ = some (.string sx) ∧ Q.cell? ⟨HC, 2, none⟩ = some (.string rx) ∧ Q.cell? ⟨HD, 0, none⟩ = some (.int .i64 M2) ∧ Q.cell? ⟨HD, 1, none⟩ = some (.string tx) ∧ Q.cell? ⟨HD, 2, none⟩ = some (.string qx))) := ⟨⟨W20, ⟨(Box.c BC_50.out).1, (Box.c BC_50.out).2.1, (Box.c BC_50.out).2.2, (Box.c BD_50.out).1, (Box.c BD_50.out).2.1, (Box.c BD_50.out).2.2⟩⟩⟩
            go_wp2_with fail
            refine chain (S := (fun Q => Q.cell? ⟨HC, 0, none⟩ = some (.int .i64 N2) ∧ Q.cell? ⟨HC, 1, none⟩ = some (.string sx) ∧ Q.cell? ⟨HC, 2, none⟩ = some (.string rx) ∧ Q.cell? ⟨HD, 0, none⟩ = some (.int .i64 M2) ∧ Q.cell? ⟨HD, 1, none⟩ = some (.string tx) ∧ Q.cell? ⟨HD, 2, none⟩ = some (.string qx))) [([true, true, true, true], 4), ([false, false, false, false, false, true], 6)] [false, false, false, false, false, false, false, true] (by kernel_rfl) (by kernel_rfl) (by kernel_rfl) ⟨(Box.c BC_50.out).1, (Box.c BC_50.out).2.1, (Box.c BC_50.out).2.2, (Box.c BD_50.out).1, (Box.c BD_50.out).2.1, (Box.c BD_50.out).2.2⟩ ?_
            simp only [wpSegs, pickB, List.dropLast_cons_cons, List.dropLast_singleton, List.getLast?_cons_cons, List.getLast?_singleton, List.toList_toArray, List.getElem?_toArray, List.getElem?_cons_succ, List.getElem?_cons_zero, Option.toList_some]
            have OA_51 := Lib.hid (ownKept (R := R) OA_50.out (grown_drew (World.grownBy.refl _ _)) (by omega))
            have OB_51 := Lib.hid (ownKept (R := R) OB_50.out (grown_drew (World.grownBy.refl _ _)) (by omega))
            have RD_51 : Hid (Rd W20.drew R ao len cap (p2 + 1)) := RD_50.out.drew
            have GR_51 := Lib.hid (grown_drew GR_50.out)
            have BA_51 : Hid (Box 24 W20.drew w.heap.size 0 ⟨#[]⟩ ⟨#[]⟩) := Box.drew BA_50.out
            have BB_51 : Hid (Box 24 W20.drew (w.heap.size + 1) 0 ⟨#[]⟩ ⟨#[]⟩) := Box.drew BB_50.out
            have BC_51 : Hid (Box 24 W20.drew HC N2 sx rx) := Box.drew BC_50.out
            have BD_51 : Hid (Box 24 W20.drew HD M2 tx qx) := Box.drew BD_50.out
            clear RD_50 GR_50 BA_50 BB_50 BC_50 BD_50 OA_50 OB_50
            have BZ : Box 24 W20 w.heap.size 0 ⟨#[]⟩ ⟨#[]⟩ := BA_51.out
            obtain ⟨z0, z1, z2⟩ := Box.c BZ
            have f0 := Box.free BZ 0
            have f1 := Box.free BZ 1
            have f2 := Box.free BZ 2
            clear BZ
            repeat (go_big_quiet_step (fail))
            refine wpQuiet_nil ?_
            intro K hK
            go_wp2_with fail
            clear z0 z1 z2 f0 f1 f2
            obtain ⟨W52, hWf52⟩ : ∃ QZ, QZ = (((W20.setCell ⟨w.heap.size, 0, none⟩ (.int .i64 N2)).setCell ⟨w.heap.size, 1, none⟩ (.string sx)).setCell ⟨w.heap.size, 2, none⟩ (.string rx)).drew := ⟨_, rfl⟩
            have hW52 : W52 = (((W20.drew.setCell ⟨w.heap.size, 0, none⟩ (.int .i64 N2)).setCell ⟨w.heap.size, 1, none⟩ (.string sx)).setCell ⟨w.heap.size, 2, none⟩ (.string rx)) := hWf52
            have RD_52 : Hid (Rd W52 R ao len cap (p2 + 1)) := by rw [hW52]; exact rd_sets RD_51.out (by omega)
            have GR_52 : Hid (w.grownBy W52 (some R)) := by rw [hW52]; exact grown_sets GR_51.out (by omega)
            have BA_52 : Hid (Box 24 W52 w.heap.size N2 sx rx) := by rw [hW52]; exact ((Box.set0 BA_51.out N2).set1 sx).set2 rx
            have BB_52 : Hid (Box 24 W52 (w.heap.size + 1) 0 ⟨#[]⟩ ⟨#[]⟩) := by rw [hW52]; exact box_others BB_51.out (by omega)
            have BC_52 : Hid (Box 24 W52 HC N2 sx rx) := by rw [hW52]; exact box_others BC_51.out (by omega)
            have BD_52 : Hid (Box 24 W52 HD M2 tx qx) := by rw [hW52]; exact box_others BD_51.out (by omega)
            have OA_52 : Hid (OwnI 3 W52 H0 va la) := by rw [hW52]; exact own_sets OA_51.out (by omega)
            have OB_52 : Hid (OwnI 3 W52 (H0 + 1) vb lb) := by rw [hW52]; exact own_sets OB_51.out (by omega)
            clear RD_51 GR_51 BA_51 BB_51 BC_51 BD_51 OA_51 OB_51
            clear hW52
            rw [← hWf52]
            clear hWf52
            refine hK _ _ ⟨(Box.c BC_52.out).1, (Box.c BC_52.out).2.1, (Box.c BC_52.out).2.2, (Box.c BD_52.out).1, (Box.c BD_52.out).2.1, (Box.c BD_52.out).2.2⟩ ?_
            clear hK K
            have BZ := BB_52.out
            obtain ⟨z0, z1, z2⟩ := Box.c BZ
            have f0 := Box.free BZ 0
            have f1 := Box.free BZ 1
            have f2 := Box.free BZ 2
            clear BZ
            repeat (go_big_quiet_step (fail))
            refine wpQuiet_nil ?_
            intro K hK
            go_wp2_with fail
            clear z0 z1 z2 f0 f1 f2
            obtain ⟨W53, hW53⟩ : ∃ QZ, QZ = (((W52.setCell ⟨w.heap.size + 1, 0, none⟩ (.int .i64 M2)).setCell ⟨w.heap.size + 1, 1, none⟩ (.string tx)).setCell ⟨w.heap.size + 1, 2, none⟩ (.string qx)) := ⟨_, rfl⟩
            have RD_53 : Hid (Rd W53 R ao len cap (p2 + 1)) := by rw [hW53]; exact rd_sets RD_52.out (by omega)
            have GR_53 : Hid (w.grownBy W53 (some R)) := by rw [hW53]; exact grown_sets GR_52.out (by omega)
            have BA_53 : Hid (Box 24 W53 w.heap.size N2 sx rx) := by rw [hW53]; exact box_others BA_52.out (by omega)
            have BB_53 : Hid (Box 24 W53 (w.heap.size + 1) M2 tx qx) := by rw [hW53]; exact ((Box.set0 BB_52.out M2).set1 tx).set2 qx
            have BC_53 : Hid (Box 24 W53 HC N2 sx rx) := by rw [hW53]; exact box_others BC_52.out (by omega)
            have BD_53 : Hid (Box 24 W53 HD M2 tx qx) := by rw [hW53]; exact box_others BD_52.out (by omega)
            have OA_53 : Hid (OwnI 3 W53 H0 va la) := by rw [hW53]; exact own_sets OA_52.out (by omega)
            have OB_53 : Hid (OwnI 3 W53 (H0 + 1) vb lb) := by rw [hW53]; exact own_sets OB_52.out (by omega)
            clear RD_52 GR_52 BA_52 BB_52 BC_52 BD_52 OA_52 OB_52
            rw [← hW53]
            clear hW53
            refine hK _ _ ⟨(Box.c BC_53.out).1, (Box.c BC_53.out).2.1, (Box.c BC_53.out).2.2, (Box.c BD_53.out).1, (Box.c BD_53.out).2.1, (Box.c BD_53.out).2.2⟩ ?_
            clear hK K
            repeat (go_big_quiet_step (fail))
            refine wpQuiet_nil ?_
            clear q0 q1 q2 q3 q4 q5 hne
            have HF := Lib.hid (show _ ∧ _ from ⟨Box.c BA_53.out, Box.c BB_53.out⟩)
            have RES := Lib.hid (show _ ∧ _ ∧ _ ∧ _ from ⟨OA_53.out.mono (show w.heap.size ≤ H0 by omega), OB_53.out.mono (show w.heap.size ≤ H0 + 1 by omega), RD_53.out, GR_53.out⟩)
            clear RD_53 GR_53 BA_53 BB_53 BC_53 BD_53 OA_53 OB_53
            go_wp2
            exact bodyPost_ret (v := .tuple #[.agg #[.int .i64 N2, .string sx, .string rx], va, .agg #[.int .i64 M2, .string tx, .string qx], vb]) (by simp [results, Tryd.results62, go_sem, HF.out.1.1, HF.out.1.2.1, HF.out.1.2.2, HF.out.2.1, HF.out.2.2.1, HF.out.2.2.2]) rfl ⟨N2, sx, rx, _, la, M2, tx, qx, _, lb, _, rfl, ⟨hnw, hs100, by omega⟩, HMQ.out, ⟨by have := LAB.out.1.1; omega, LAB.out.1.2⟩, ⟨by have := LAB.out.2.1.1; omega, LAB.out.2.1.2⟩, RES.out.1, RES.out.2.1, RES.out.2.2.1, LAB.out.2.2, RES.out.2.2.2⟩
end Go.Proofs.YtpcnoiigbmiejaaDoor.l7s
