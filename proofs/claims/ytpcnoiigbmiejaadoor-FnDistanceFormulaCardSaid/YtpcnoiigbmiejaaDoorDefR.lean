/- DefinedRel of the program, at a valid structure and a formula with two free variables. -/
import Derived.Test.YtpcnoiigbmiejaaDoorHoldsB
import Derived.Test.YtpcnoiigbmiejaaDoorPk2
import Derived.Test.YtpcnoiigbmiejaaDoorFmZz
import Derived.Test.YtpcnoiigbmiejaaDoorPkR
namespace Go.Proofs.YtpcnoiigbmiejaaDoor.ist
set_option linter.unusedVariables false
set_option linter.unusedSimpArgs false
open Go.ChangeShapes Go.WideShapes Go.ChangeAt Go.RowKit
open Go.Proofs.YtpcnoiigbmiejaaDoor.lib Go.Proofs.YtpcnoiigbmiejaaDoor.st Go.Proofs.YtpcnoiigbmiejaaDoor.flow Go.Proofs.YtpcnoiigbmiejaaDoor.chain Go.Proofs.YtpcnoiigbmiejaaDoor.base Go.Proofs.YtpcnoiigbmiejaaDoor.make Go.Proofs.YtpcnoiigbmiejaaDoor.fm Go.Proofs.YtpcnoiigbmiejaaDoor.fmt Go.Proofs.YtpcnoiigbmiejaaDoor.fmp Go.Proofs.YtpcnoiigbmiejaaDoor.fmq Go.Proofs.YtpcnoiigbmiejaaDoor.sat Go.Proofs.YtpcnoiigbmiejaaDoor.game Go.Proofs.YtpcnoiigbmiejaaDoor.keys Go.Proofs.YtpcnoiigbmiejaaDoor.mapr Go.Proofs.YtpcnoiigbmiejaaDoor.tab Go.Proofs.YtpcnoiigbmiejaaDoor.hold Go.Proofs.YtpcnoiigbmiejaaDoor.fmzz

section
variable {N : Nat} {s r : ByteArray} {w0 : World} {m0 h0 : Nat}
/-- what lasts while the test of pairs is asked -/
structure InvH (N : Nat) (s r : ByteArray) (w0 : World) (m0 h0 : Nat) (A : Gr) (V : World) (X : World) : Prop where
  size : V.heap.size ≤ X.heap.size
  old : ∀ k, k < V.heap.size → k ≠ m0 → X.heap[k]? = V.heap[k]?
  st : ∃ D : Nat → Prop, St N s r w0 m0 h0 A X D ∧ ∀ k, D k → k = m0 ∨ V.heap.size + 2 ≤ k
theorem InvH.start {A : Gr} {V : World} (hst : St N s r w0 m0 h0 A V fun k => k = m0) : ∀ X, Below V.heap.size V X → InvH N s r w0 m0 h0 A V X := fun X hb =>
  ⟨hb.size, fun k hk _ => hb.block k hk, _, hst.below hb (Nat.le_refl _), fun k hk => .inl hk⟩
theorem InvH.lasts {A : Gr} {V : World} (h0lt : h0 < V.heap.size) (m0lt : m0 < V.heap.size) (hw0 : w0.heap.size ≤ V.heap.size) : Lasts (InvH N s r w0 m0 h0 A V) (V.heap.size + 1) := by
  intro X X' h ho hs hb
  obtain ⟨D, ⟨Mo, hk, hh, hn⟩, hD⟩ := h.st
  have h1 := h.size
  refine ⟨Nat.le_trans h.size hs, fun k hk1 hk2 => (hb k (by omega) (by omega)).trans (h.old k hk1 hk2), D, ⟨Mo, hk.keep (fun k hkk => hb k ?_ ?_) hs ho, (hb h0 (by omega) (by omega)).trans hh, hn⟩, hD⟩
  · rcases hkk with hkk | hkk
    · exact hk.lt k hkk
    · omega
  · rcases hkk with hkk | hkk
    · rcases hD k hkk with h | h <;> omega
    · omega
set_option maxHeartbeats 1600000 in
set_option maxRecDepth 100000 in
theorem clo_any (hN : N ≤ 8) (hs : s.size = N) (hr : r.size = N * N) {a : Fm} (hk : a.ok) {H : Nat} (ht : Tree 84 w0 a H) (hfr : ∀ u, 2 ≤ u → u < 4 → inS a.free u = false) (V : World) (Hh Hn C : Nat)
    (hh : V.heap[Hh]? = some (.cells #[.pointer (some ⟨h0, 0, none⟩)] 86 (0, 0))) (hn : V.heap[Hn]? = some (.cells #[.pointer (some ⟨H, 0, none⟩)] 80 (0, 0))) (h1 : Hh ≠ m0) (h2 : Hn ≠ m0) (hC : C ≤ m0) (hC5 : C ≤ V.heap.size) (m0lt : m0 < V.heap.size)
    (W : World) (hI : InvH N s r w0 m0 h0 (gob.gr N s r) V W) (hsz : V.heap.size + 1 < W.heap.size) (x y : Nat) (hx : x < N) (hy : y < N) :
    Calls Tryd.prog 89 #[.int .i64 (x : Nat), .int .i64 (y : Nat), .pointer (some ⟨Hh, 0, none⟩), .pointer (some ⟨Hn, 0, none⟩)] W fun e W' => e = .returned (.bool (sat (gob.gr N s r) a (e2 x y))) ∧ InvH N s r w0 m0 h0 (gob.gr N s r) V W' ∧ Below C W W' ∧ W'.heap[V.heap.size]? = W.heap[V.heap.size]? ∧ W'.heap[V.heap.size + 1]? = W.heap[V.heap.size + 1]? := by
  obtain ⟨D, hst, hD⟩ := hI.st
  have hhl : Hh < V.heap.size := (Array.getElem?_eq_some_iff.1 hh).1
  have hnl : Hn < V.heap.size := (Array.getElem?_eq_some_iff.1 hn).1
  have bh : W.heap[Hh]? = some (.cells #[.pointer (some ⟨h0, 0, none⟩)] 86 (0, 0)) := (hI.old Hh hhl h1).trans hh
  have bn : W.heap[Hn]? = some (.cells #[.pointer (some ⟨H, 0, none⟩)] 80 (0, 0)) := (hI.old Hn hnl h2).trans hn
  have ch : W.cell? ⟨Hh, 0, none⟩ = some (.pointer (some ⟨h0, 0, none⟩)) := by simp [World.cell?, bh]
  have cn : W.cell? ⟨Hn, 0, none⟩ = some (.pointer (some ⟨H, 0, none⟩)) := by simp [World.cell?, bn]
  obtain ⟨W1, hW1⟩ : ∃ W1, W1 = W.alloc (.cells #[.int .i64 (x : Nat), .int .i64 (y : Nat)] 3) := ⟨_, rfl⟩
  have hb1 : Below W.heap.size W W1 := by rw [hW1]; exact (Below.refl _ _).alloc (Nat.le_refl _) _
  have hg1 : W1.heap[W.heap.size]? = some (.cells #[.int .i64 (x : Nat), .int .i64 (y : Nat)] 3 (0, 0)) := by rw [hW1]; exact heap_alloc_new W _
  have c0 : W1.cell? ⟨W.heap.size, 0, none⟩ = some (.int .i64 (x : Nat)) := by simp [World.cell?, hg1]
  have c1 : W1.cell? ⟨W.heap.size, 1, none⟩ = some (.int .i64 (y : Nat)) := by simp [World.cell?, hg1]
  have HC := Lib.hid (holds_two hN hs hr hk ht hfr (hst.below hb1 (Nat.le_refl _)) W.heap.size 2 x y hx hy c0 c1)
  have HW1 := Lib.hid hW1
  have HF := Lib.hid (show _ ∧ _ ∧ _ from ⟨hI, hD, hb1⟩)
  clear hst hI hD bh bn hb1 hg1 c0 c1 ht hfr hh hn hW1
  go_enter Tryd.func89, Tryd.ntmps89
  go_wp2_with fail
  rw [← HW1.out]
  refine (HC.out).mono ?_
  rintro e W2 ⟨D2, rfl, hs2, ho2, hg2⟩
  have hz := HF.out.1.size
  have hz1 := HF.out.2.2.size
  have hD2 : ∀ k, D2 k → k = m0 ∨ V.heap.size + 2 ≤ k := fun k hk => by
    rcases hg2 k hk with h | h
    · exact HF.out.2.1 k h
    · exact .inr (by omega)
  have hblk : ∀ k, k < W.heap.size → k ≠ m0 → k < V.heap.size + 2 → W2.heap[k]? = W.heap[k]? := fun k hk hkm hk2 =>
    (ho2.block k (by omega) fun h => by rcases HF.out.2.1 k h with h | h <;> omega).trans (HF.out.2.2.block k hk)
  have HR : Hid (InvH N s r w0 m0 h0 (gob.gr N s r) V W2 ∧ Below C W W2 ∧ W2.heap[V.heap.size]? = W.heap[V.heap.size]? ∧ W2.heap[V.heap.size + 1]? = W.heap[V.heap.size + 1]?) := by
    refine ⟨⟨by have := ho2.size; omega, fun k hk hkm => (hblk k (by omega) hkm (by omega)).trans (HF.out.1.old k hk hkm), D2, hs2, hD2⟩,
      ⟨ho2.os.trans HF.out.2.2.os, ho2.tape.trans HF.out.2.2.tape, ho2.output.trans HF.out.2.2.output, by have := ho2.size; omega, fun k hk => hblk k (by omega) (by omega) (by omega)⟩, hblk _ (by omega) (by omega) (by omega), hblk _ (by omega) (by omega) (by omega)⟩
  clear hs2 ho2 hg2 hD2 hblk hz hz1 HC ch cn
  go_wp2
  go_ret
  exact ⟨rfl, HR.out⟩
end
/-- the pairs for which a formula is true, as a row of bits -/
def relOf (N : Nat) (s r : ByteArray) (a : Fm) : ByteArray := bR (fun x y => sat (gob.gr N s r) a (e2 x y)) N N
set_option maxHeartbeats 3200000 in
set_option maxRecDepth 100000 in
theorem definedRel_any (N : Nat) (s r f : ByteArray) (a : Fm) (hv : validB (N : Int) s r = true) (hat : At f 0 a f.size) (hz : f.size ≤ 4000) (hfr : a.free = 3) (w : World) :
    Calls Tryd.prog 40 #[.agg #[.int .i64 (N : Int), .string s, .string r], .string f] w fun e w' => e = .returned (.tuple #[.string (relOf N s r a), .bool true]) ∧ Below w.heap.size w w' := by
  obtain ⟨v1, v2, v3, -, -⟩ := validB_iff.1 hv
  have hN : N ≤ 8 := by omega
  have hss : s.size = N := by omega
  have hrr : r.size = N * N := by
    have e : ((N * N : Nat) : Int) = (N : Int) * (N : Int) := Int.natCast_mul N N
    omega
  have hnn : N * N ≤ 64 := Nat.mul_le_mul hN hN
  have HSZ := Lib.hid (show _ ∧ _ ∧ _ from ⟨hN, hss, hrr⟩)
  have HVV : Hid (∀ W, Calls Tryd.prog 49 #[.agg #[.int .i64 (N : Int), .string s, .string r]] W fun e w' => e = .returned (.bool true) ∧ Below W.heap.size W w') := fun W => by
    rw [← hv]; exact isStructure_any (N : Int) s r W (by omega) (by omega)
  have HAT := Lib.hid (show _ ∧ _ ∧ _ from ⟨hat, fmB_iff.2 ⟨hz, a, hat⟩, hfr⟩)
  clear hv v1 v2 v3 hN hss hrr hnn hat hz hfr
  obtain ⟨W1, hW1⟩ : ∃ W1, W1 = w.alloc (.cells #[.int .i64 (N : Int), .string s, .string r] 24) := ⟨_, rfl⟩
  have BX : Hid (Box 24 W1 w.heap.size (N : Int) s r) := by rw [hW1]; exact Box.new _ w _ rfl _ _ _
  have HB1 : Hid (Below w.heap.size w W1) := by rw [hW1]; exact (Below.refl _ _).alloc (Nat.le_refl _) _
  have HW1 := Lib.hid hW1
  clear hW1
  go_enter Tryd.func40, Tryd.ntmps40
  go_wp2_with fail
  rw [← HW1.out]
  refine (parseFormula_any f _).mono ?_
  rintro eo W2 ⟨p, rfl, hb2, hp⟩
  have HB2 := Lib.hid (HB1.out.trans (hb2.mono HB1.out.size))
  have BX2 := Lib.hid (BX.out.below hb2 BX.out.lt)
  clear hb2 BX HB1 HW1
  rcases hp with ⟨h, -⟩ | ⟨-, a', H, hat', rfl, ht⟩
  · rw [HAT.out.2.1] at h; cases h
  obtain rfl := rdb.at_one HAT.out.1 hat'
  clear hat'
  obtain ⟨W3, hW3⟩ : ∃ W3, W3 = W2.alloc (.cells #[.pointer (some ⟨H, 0, none⟩)] 80) := ⟨_, rfl⟩
  obtain ⟨Hn, hHn⟩ : ∃ Hn, Hn = W2.heap.size := ⟨_, rfl⟩
  have hb3 : Below W2.heap.size W2 W3 := by rw [hW3]; exact (Below.refl _ _).alloc (Nat.le_refl _) _
  have hn3 : W3.heap[Hn]? = some (.cells #[.pointer (some ⟨H, 0, none⟩)] 80 (0, 0)) := by rw [hW3, hHn]; exact heap_alloc_new W2 _
  have hC2 : w.heap.size ≤ Hn := by rw [hHn]; exact HB2.out.size
  have HB3 := Lib.hid (HB2.out.trans (hb3.mono HB2.out.size))
  have BX3 := Lib.hid (BX2.out.below hb3 BX2.out.lt)
  have HT3 := Lib.hid (ht.below hb3 (Nat.le_refl _))
  have HN3 := Lib.hid hn3
  have HW3 := Lib.hid hW3
  have HHN := Lib.hid hHn
  have q0 : W3.cell? ⟨Hn, 0, none⟩ = some (.pointer (some ⟨H, 0, none⟩)) := by simp [World.cell?, hn3]
  obtain ⟨b0, b1, b2⟩ := Box.c BX3.out
  clear hb3 hn3 hW3 ht HB2 BX2 hHn
  go_upto_region 2 with (fail)
  rw [← HW3.out, ← HHN.out]
  go_wp2_with fail
  clear b0 b1 b2 q0 HW3 HHN
  refine (HVV.out _).mono ?_
  rintro e3 W4 ⟨rfl, hb4⟩
  have HB4 := Lib.hid (HB3.out.trans (hb4.mono HB3.out.size))
  have BX4 := Lib.hid (BX3.out.below hb4 BX3.out.lt)
  have HT4 := Lib.hid (HT3.out.below hb4 (Nat.le_refl _))
  have hnl3 : Hn < W3.heap.size := (Array.getElem?_eq_some_iff.1 HN3.out).1
  have HN4 : Hid (W4.heap[Hn]? = some (.cells #[.pointer (some ⟨H, 0, none⟩)] 80 (0, 0))) := (hb4.block Hn hnl3).trans HN3.out
  clear hb4 HB3 BX3 HT3 HN3 hnl3
  obtain ⟨op, vs, ps, hnode⟩ := HT4.out.free
  obtain ⟨vv, pv, -, -, -, -, -, cf, -⟩ := hnode.cells
  rw [HAT.out.2.2] at cf
  have q0 : W4.cell? ⟨Hn, 0, none⟩ = some (.pointer (some ⟨H, 0, none⟩)) := by have := HN4.out; simp [World.cell?, this]
  obtain ⟨b0, b1, b2⟩ := Box.c BX4.out
  clear hnode
  go_wp2_with fail
  clear b0 b1 b2 cf q0
  refine (newHolder_any N s r _).mono ?_
  rintro e5 W5 ⟨m0, h0, rfl, hst, hm0, hb5⟩
  obtain ⟨V, hV⟩ : ∃ V, V = W5.alloc (.cells #[.pointer (some ⟨h0, 0, none⟩)] 86) := ⟨_, rfl⟩
  obtain ⟨Hh, hHh⟩ : ∃ Hh, Hh = W5.heap.size := ⟨_, rfl⟩
  have hb6 : Below W5.heap.size W5 V := by rw [hV]; exact (Below.refl _ _).alloc (Nat.le_refl _) _
  have hh6 : V.heap[Hh]? = some (.cells #[.pointer (some ⟨h0, 0, none⟩)] 86 (0, 0)) := by rw [hV, hHh]; exact heap_alloc_new W5 _
  have hst5 := hst (gob.gr N s r)
  have hm5 : m0 < W5.heap.size := by obtain ⟨Mo, kn, -⟩ := hst5; exact kn.lt m0 kn.d0
  have hh5 : h0 < W5.heap.size := by obtain ⟨Mo, -, hh, -⟩ := hst5; exact hh.lt
  have hs5 := hb5.size
  have hs6 := hb6.size
  have hb46 : Below W4.heap.size W4 V := hb5.trans (hb6.mono hs5)
  have hnl4 : Hn < W4.heap.size := (Array.getElem?_eq_some_iff.1 HN4.out).1
  have HVST := Lib.hid (show _ ∧ _ ∧ _ ∧ _ ∧ _ from ⟨hst5.below hb6 (Nat.le_refl _), hh6, (hb46.block Hn hnl4).trans HN4.out, HB4.out.trans (hb46.mono HB4.out.size), BX4.out.below hb46 BX4.out.lt⟩)
  have HNUM : Hid (m0 < V.heap.size ∧ h0 < V.heap.size ∧ W4.heap.size ≤ V.heap.size ∧ Hh ≠ m0 ∧ Hn ≠ m0 ∧ w.heap.size ≤ m0 ∧ w.heap.size ≤ V.heap.size) := ⟨by omega, by omega, by omega, by omega, by omega, by have := HB4.out.size; omega, by have := HB4.out.size; omega⟩
  have HVE := Lib.hid hV
  have HHE := Lib.hid hHh
  clear hst hm0 hb5 hb6 hh6 hst5 hm5 hh5 hs5 hs6 hb46 hnl4 hV hHh BX4 HN4 HB4
  obtain ⟨b0, b1, b2⟩ := Box.c HVST.out.2.2.2.2
  have hfrr : Hid (∀ u, 2 ≤ u → u < 4 → inS a.free u = false) := by
    rw [HAT.out.2.2]
    intro u h2 h4
    obtain rfl | rfl : u = 2 ∨ u = 3 := by omega
    · rfl
    · rfl
  have HMK : Hid (Calls Tryd.prog 53 #[.int .i64 (N : Int), .func (.func 52) #[.agg #[.int .i64 (N : Int), .string s, .string r]] #[], .func (.func 89) #[] #[.pointer (some ⟨Hh, 0, none⟩), .pointer (some ⟨Hn, 0, none⟩)]] V fun e w' => e = .returned (.agg #[.int .i64 (N : Int), .string (bS (bitAt s) N), .string (relOf N s r a)]) ∧ Below w.heap.size V w') :=
    make_inv N HSZ.out.1 _ _ _ _ (bitAt s) (fun x y => sat (gob.gr N s r) a (e2 x y)) V w.heap.size (InvH N s r W4 m0 h0 (gob.gr N s r) V) HNUM.out.2.2.2.2.2.2
      (make.enters_of Tryd.func52 (by kernel_rfl) (by kernel_rfl)) (make.enters_of Tryd.func89 (by kernel_rfl) (by kernel_rfl))
      (InvH.start HVST.out.1) (InvH.lasts HNUM.out.2.1 HNUM.out.1 HNUM.out.2.2.1)
      (fun W _ x hx => inSet_any (N : Int) s r x W (by have := HSZ.out.2.1; omega) (by have := HSZ.out; omega))
      (fun W hI hsz x y hx hy => clo_any HSZ.out.1 HSZ.out.2.1 HSZ.out.2.2 HAT.out.1.ok HT4.out hfrr.out V Hh Hn w.heap.size HVST.out.2.1 HVST.out.2.2.1 HNUM.out.2.2.2.1 HNUM.out.2.2.2.2.1 HNUM.out.2.2.2.2.2.1 HNUM.out.2.2.2.2.2.2 HNUM.out.1 W hI hsz x y hx hy)
  go_upto_region 5 with (fail)
  rw [← HVE.out, ← HHE.out]
  go_wp2_with fail
  clear b0 b1 b2
  refine (HMK.out).mono ?_
  rintro e6 W6 ⟨rfl, hb7⟩
  have HR := Lib.hid (HVST.out.2.2.2.1.trans hb7)
  clear hb7 HMK HVE HHE
  have hfd : ∀ W : World, (Instr.field 24 (.agg #[.int .i64 (N : Int), .string (bS (bitAt s) N), .string (relOf N s r a)]) 2).run Tryd.prog W = .ok (.string (relOf N s r a)) W := fun _ => by first | rfl | kernel_rfl
  go_wp2
  go_ret2
  exact ⟨rfl, HR.out⟩
end Go.Proofs.YtpcnoiigbmiejaaDoor.ist
