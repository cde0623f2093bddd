/- FnSumLists: the walk. -/
import Derived.Test.YtpcnoiigbmiejaaDoorDrawSw
import Derived.Test.YtpcnoiigbmiejaaDoorTypeA
import Derived.Test.YtpcnoiigbmiejaaDoorSgm
import Derived.Test.YtpcnoiigbmiejaaDoorInRel
import Derived.Test.YtpcnoiigbmiejaaDoorDrawG
import Derived.Test.YtpcnoiigbmiejaaDoorRow
import Derived.Test.YtpcnoiigbmiejaaDoorTree
namespace Go.Proofs.YtpcnoiigbmiejaaDoor.fnSumlW
set_option linter.unusedVariables false
set_option linter.unusedSimpArgs false
open Go.ChangeShapes Go.WideShapes Go.ChangeAt Go.RowKit
open Go.Proofs.YtpcnoiigbmiejaaDoor.flow Go.Proofs.YtpcnoiigbmiejaaDoor.lib Go.Proofs.YtpcnoiigbmiejaaDoor.st Go.Proofs.YtpcnoiigbmiejaaDoor.draw Go.Proofs.YtpcnoiigbmiejaaDoor.base Go.Proofs.YtpcnoiigbmiejaaDoor.gow Go.Proofs.YtpcnoiigbmiejaaDoor.gox Go.Proofs.YtpcnoiigbmiejaaDoor.still Go.Proofs.YtpcnoiigbmiejaaDoor.game Go.Proofs.YtpcnoiigbmiejaaDoor.pairL Go.Proofs.YtpcnoiigbmiejaaDoor.ispart Go.Proofs.YtpcnoiigbmiejaaDoor.gob Go.Proofs.YtpcnoiigbmiejaaDoor.tab Go.Proofs.YtpcnoiigbmiejaaDoor.sum Go.Proofs.YtpcnoiigbmiejaaDoor.prod Go.Proofs.YtpcnoiigbmiejaaDoor.assoc Go.Proofs.YtpcnoiigbmiejaaDoor.sgm Go.Proofs.YtpcnoiigbmiejaaDoor.inrel Go.Proofs.YtpcnoiigbmiejaaDoor.l5 Go.Proofs.YtpcnoiigbmiejaaDoor.l4 Go.Proofs.YtpcnoiigbmiejaaDoor.join Go.Proofs.YtpcnoiigbmiejaaDoor.chain
/-- bytes that came in may be drawn from -/
theorem byt_of_row {w : World} {a : Option Addr} {n c : Nat} {zs : List Int} (h : row.IsRow .u8 w a n c zs) : Byt w w.heap.size a n ∧ n ≤ c ∧ c ≤ 9223372036854775807 := by
  rcases h with ⟨rfl, rfl, rfl, rfl⟩ | ⟨x, rfl, hl, hm, hz, hcell, hwf⟩
  · exact ⟨.inl rfl, Nat.le_refl _, by omega⟩
  · refine ⟨?_, hl, hm⟩
    by_cases h0 : n = 0
    · exact .inl h0
    · obtain ⟨b, off, spot⟩ := x
      have hc := hcell 0 (by omega)
      have hspot : spot = none := by simpa [Addr.add] using World.cell?_spot hc
      subst hspot
      have hlt := World.block_lt_of_cell? w _ hc
      refine .inr ⟨b, off, rfl, by simpa [Addr.add] using hlt, fun i hi => ?_⟩
      have hci := hcell i (by omega)
      have hw := hwf (zs.getD i 0) (by rw [List.getD_eq_getElem?_getD, List.getElem?_eq_getElem (by omega)]; exact List.getElem_mem _)
      have hb : 0 ≤ zs.getD i 0 ∧ zs.getD i 0 ≤ 255 := by
        generalize zs.getD i 0 = z at hw ⊢
        simp only [Lit.wf, IntKind.min, IntKind.max, IntKind.signed, IntKind.bits, Bool.and_eq_true, decide_eq_true_eq] at hw
        simp at hw
        omega
      refine ⟨(zs.getD i 0).toNat, by omega, ?_⟩
      rw [show (⟨b, off, none⟩ : Addr).add i = ⟨b, off + i, none⟩ from by simp only [Addr.add]; split <;> simp [*]] at hci
      rw [hci, show (((zs.getD i 0).toNat : Nat) : Int) = zs.getD i 0 from by omega]
theorem valid_small {n : Int} {s r : ByteArray} (h : validB n s r = true) : s.size ≤ 100 ∧ r.size ≤ 100 := by
  obtain ⟨N, rfl, h1, h8, hs, hr⟩ := prod.valid_size h
  have := Nat.mul_le_mul h8 h8
  omega
/-- a list whose block lies below C -/
def RU (C : Nat) (W : World) (v : Value) (l : List Int) : Prop := Reads W v l ∧ Room v ∧ (∀ g, v.ownBlock = some g → g < C) ∧ C ≤ W.heap.size
theorem RU.below {C : Nat} {W W' : World} {v : Value} {l : List Int} (h : RU C W v l) (hb : Below W.heap.size W W') : RU C W' v l := ⟨h.1.below hb (Nat.le_refl _), h.2.1, h.2.2.1, Nat.le_trans h.2.2.2 hb.size⟩
theorem RU.sets {C b : Nat} {W : World} {v : Value} {l : List Int} {u0 u1 u2 : Value} (h : RU C W v l) (hb : C ≤ b) : RU C (((W.setCell ⟨b, 0, none⟩ u0).setCell ⟨b, 1, none⟩ u1).setCell ⟨b, 2, none⟩ u2) v l :=
  ⟨(out_sets (D := fun k => k = b) rfl).reads h.1 (fun g hg e => by have := h.2.2.1 g hg; omega), h.2.1, h.2.2.1, by simpa using h.2.2.2⟩
theorem RU.lt {C : Nat} {W : World} {v : Value} {l : List Int} (h : RU C W v l) : ∀ g, v.ownBlock = some g → g < W.heap.size := fun g hg => Nat.lt_of_lt_of_le (h.2.2.1 g hg) h.2.2.2
theorem RU.drew {C : Nat} {W : World} {v : Value} {l : List Int} (h : RU C W v l) : RU C W.drew v l := h.below (Below.refl _ _).drew
/-- SecondWins of the program with a known answer -/
theorem wins_at {C D : Nat} {n : Int} {s r : ByteArray} {va : Value} {la : List Int} {m : Int} {t q : ByteArray} {vb : Value} {lb : List Int} {x : Int} (hla : la.length ≤ 100) (hlb : lb.length ≤ 100) (hs : s.size ≤ 100) (hr : r.size ≤ 100) (ht : t.size ≤ 100) (hq : q.size ≤ 100) (b : Bool) (hb : swnB n s r la m t q lb x = b) (w : World) (ra : RU C w va la) (rb : RU D w vb lb) :
    Calls Tryd.prog 17 #[.agg #[.int .i64 n, .string s, .string r], va, .agg #[.int .i64 m, .string t, .string q], vb, .int .i64 x] w fun e w' => e = .returned (.bool b) ∧ Below w.heap.size w w' := by
  rw [← hb]; exact implSecondWins_any n s r va la m t q vb lb x w ra.1 rb.1 (by omega) (by omega) (by omega) (by omega) (by omega) (by omega) (fun _ => ⟨ra.2.1, rb.2.1⟩)
theorem wins_spec {C D : Nat} {n : Int} {s r : ByteArray} {va : Value} {la : List Int} {m : Int} {t q : ByteArray} {vb : Value} {lb : List Int} {x : Int} (hla : la.length ≤ 100) (hlb : lb.length ≤ 100) (hs : s.size ≤ 100) (hr : r.size ≤ 100) (ht : t.size ≤ 100) (hq : q.size ≤ 100) (b : Bool) (hb : swnB n s r la m t q lb x = b) (w : World) (ra : RU C w va la) (rb : RU D w vb lb) :
    Calls Tryd.prog 18 #[.agg #[.int .i64 n, .string s, .string r], va, .agg #[.int .i64 m, .string t, .string q], vb, .int .i64 x] w fun e w' => e = .returned (.bool b) ∧ Below w.heap.size w w' := by
  rw [← hb]; exact specSecondWins_any n s r va la m t q vb lb x w ra.1 rb.1 (by omega) (by omega) (by omega) (by omega) (by omega) (by omega) (fun _ => ⟨ra.2.1, rb.2.1⟩) ra.lt rb.lt
theorem valid_at {n : Int} {s r : ByteArray} (hs : s.size ≤ 100) (hr : r.size ≤ 100) (b : Bool) (hb : validB n s r = b) (w : World) :
    Calls Tryd.prog 12 #[.agg #[.int .i64 n, .string s, .string r]] w fun e w' => e = .returned (.bool b) ∧ Below w.heap.size w w' := by
  rw [← hb]; exact implValid_any n s r w (by omega) (by omega)
theorem swn_valid {n : Int} {s r : ByteArray} {la : List Int} {m : Int} {t q : ByteArray} {lb : List Int} {x : Int} (h : swnB n s r la m t q lb x = true) : validB n s r = true ∧ validB m t q = true := by
  obtain ⟨N, M, k, xa, xb, rfl, rfl, rfl, rfl, rfl⟩ := swn_form h
  obtain ⟨h1, h2, _⟩ := swn_iff.1 h
  exact ⟨h1, h2⟩
/-- two sums, and what the game within them comes to -/
def First (n : Int) (s r : ByteArray) (la : List Int) (m : Int) (t q : ByteArray) (lb : List Int) (c : Int) (u v : ByteArray) (x : Int) : Prop :=
  ∃ (x1 : Int) (y1 z1 : ByteArray) (k1 : Bool) (x2 : Int) (y2 z2 : ByteArray) (k2 : Bool), SC 13 n s r c u v x1 y1 z1 k1 ∧ SC 13 m t q c u v x2 y2 z2 k2 ∧ (k1 = true → k2 = true → swnB x1 y1 z1 la x2 y2 z2 lb x = true)
def Second (n : Int) (s r : ByteArray) (la : List Int) (m : Int) (t q : ByteArray) (lb : List Int) (c : Int) (u v : ByteArray) (x : Int) : Prop :=
  ∃ (x1 : Int) (y1 z1 : ByteArray) (k1 : Bool) (x2 : Int) (y2 z2 : ByteArray) (k2 : Bool), SC 14 c u v n s r x1 y1 z1 k1 ∧ SC 14 c u v m t q x2 y2 z2 k2 ∧ (k1 = true → k2 = true → swnB x1 y1 z1 (joinL c [] la) x2 y2 z2 (joinL c [] lb) x = true)
section
variable {n : Int} {s r : ByteArray} {la : List Int} {m : Int} {t q : ByteArray} {lb : List Int} {c : Int} {u v : ByteArray} {x : Int} (hi : swnB n s r la m t q lb x = true) (hs : s.size ≤ 100) (hr : r.size ≤ 100) (ht : t.size ≤ 100) (hq : q.size ≤ 100) (hu : u.size ≤ 100) (hv : v.size ≤ 100)
include hi hs hr ht hq hu hv
theorem first : First n s r la m t q lb c u v x := ⟨_, _, _, _, _, _, _, _, sc_dis (by omega) (by omega) (by omega) (by omega), sc_dis (by omega) (by omega) (by omega) (by omega), fun k1 k2 => lists_first hi k1 k2⟩
theorem second : Second n s r la m t q lb c u v x := ⟨_, _, _, _, _, _, _, _, sc_ord (by omega) (by omega) (by omega) (by omega), sc_ord (by omega) (by omega) (by omega) (by omega), fun k1 k2 => lists_second hi k1 k2⟩
end
theorem ru_own {W : World} {B : Nat} {v : Value} {l : List Int} (h : OwnI 3 W B v l) : RU W.heap.size W v l := ⟨h.reads, room_own h, fun g hg => (World.ownsRow.lt h g hg).2, Nat.le_refl _⟩
theorem ru_from {W W' : World} {C : Nat} {v : Value} {l : List Int} (h : RU C W v l) (hb : Below W.heap.size W W') : RU C W' v l := h.below hb
theorem join_len (c : Int) (l : List Int) : (joinL c [] l).length = l.length := by simp [joinL]
/-- JoinLists with nothing in the first part -/
theorem join_at {C : Nat} {n : Int} {s r : ByteArray} {k : Nat} {vb : Value} {lb : List Int} (hlb : lb.length ≤ 100) (w : World) (rb : RU C w vb lb) :
    Calls Tryd.prog 20 #[.agg #[.int .i64 n, .string s, .string r], .slice (some ⟨k, 0, none⟩) 0 0, vb] w fun e w' => ∃ v, e = .returned v ∧ OwnI 3 w' w.heap.size v (joinL n [] lb) ∧ Below w.heap.size w w' :=
  join.impl_any n s r (.slice (some ⟨k, 0, none⟩) 0 0) vb [] lb w ⟨_, 0, rfl, .inl rfl, fun e => by cases e⟩ rb.1 (by simp; omega)

set_option maxHeartbeats 40000000 in
set_option maxRecDepth 100000 in
theorem walk (a0 : Option Addr) (n0 c0 : Nat) (l0 : List Int) (a1 : Option Addr) (n1 c1 : Nat) (l1 : List Int) (w : World) (h0 : row.IsRow .u8 w a0 n0 c0 l0) (h1 : row.IsRow .u8 w a1 n1 c1 l1) :
    Calls Tryd.prog 4 #[.slice a0 n0 c0, .slice a1 n1 c1] w fun e w' => e = .returned (.bool true) ∧ Below w.heap.size w w' := by
  obtain ⟨by0, nc0, cm0⟩ := byt_of_row h0
  have BY0 := Lib.hid by0
  clear by0
  obtain ⟨by1, nc1, cm1⟩ := byt_of_row h1
  have BY1 := Lib.hid by1
  clear by1
  clear h0 h1
  by_cases hg0 : 1048576 < n0
  · go_enter Tryd.func4, Tryd.ntmps4
    go_wp2
    go_ret
    exact ⟨rfl, Below.refl _ _⟩
  by_cases hg1 : 1048576 < n1
  · go_enter Tryd.func4, Tryd.ntmps4
    go_wp2
    go_ret
    exact ⟨rfl, Below.refl _ _⟩
  go_enter Tryd.func4, Tryd.ntmps4
  have S0 : Hid (Below w.heap.size w w) := Below.refl _ _
  go_wp2_with fail
  refine (drawSecondWins_any a0 n0 c0 _ BY0.out nc0 cm0).mono ?_
  rintro e w_1 ⟨n, s, r, va, la, m, t, q, vb, lb, x, rfl, ⟨hnw, hs, hr⟩, ⟨hmw, ht, hq⟩, ⟨hla, -⟩, ⟨hlb, -⟩, ⟨hra, hrb⟩, hx, hb⟩
  have S1 : Hid (Below w.heap.size w w_1) := S0.out.trans (hb.mono S0.out.size)
  clear hb S0
  clear hnw hmw
  obtain ⟨C9, hC9⟩ : ∃ QZ, QZ = w_1.heap.size := ⟨_, rfl⟩
  have HRU : Hid (RU C9 w_1 va la ∧ RU C9 w_1 vb lb) := by rw [hC9]; exact ⟨⟨hra.1, hra.2.1, fun g hg => (hra.2.2 g hg).2, Nat.le_refl _⟩, ⟨hrb.1, hrb.2.1, fun g hg => (hrb.2.2 g hg).2, Nat.le_refl _⟩⟩
  have S2 : Hid (Below w.heap.size w w_1 ∧ RU C9 w_1 va la ∧ RU C9 w_1 vb lb) := ⟨S1.out, HRU.out.1, HRU.out.2⟩
  clear S1 HRU hra hrb
  obtain ⟨w_3, hw_3⟩ : ∃ QZ, QZ = ((w_1.alloc (.cells #[.int .i64 n, .string s, .string r] 24)).alloc (.cells #[.int .i64 m, .string t, .string q] 24)) := ⟨_, rfl⟩
  obtain ⟨HA, hHA⟩ : ∃ QZ, QZ = w_1.heap.size := ⟨_, rfl⟩
  have zHA : w.heap.size ≤ HA := by rw [hHA]; exact S2.out.1.size
  obtain ⟨HB, hHB⟩ : ∃ QZ, QZ = HA + 1 := ⟨_, rfl⟩
  have lHB : HA < HB := by omega
  have zHB : w.heap.size ≤ HB := by omega
  have S3 : Hid (Below w.heap.size w w_3 ∧ Box 24 w_3 HA n s r ∧ Box 24 w_3 HB m t q ∧ RU C9 w_3 va la ∧ RU C9 w_3 vb lb) := by rw [hw_3]; exact ⟨((S2.out.1).alloc (S2.out.1.size) _).alloc (by have := S2.out.1.size; simp only [World.size_alloc]; omega) _, ((Box.new 24 w_1 HA (by first | (rw [hHA]; done) | (rw [hHA]; simp)) n s r).below ((Below.refl _ _).alloc (Nat.le_refl _) _) (Box.new 24 w_1 HA (by first | (rw [hHA]; done) | (rw [hHA]; simp)) n s r).lt), (Box.new 24 (w_1.alloc (.cells #[.int .i64 n, .string s, .string r] 24)) HB (by first | (rw [hHB, hHA]; done) | (rw [hHB, hHA]; simp)) m t q), S2.out.2.1.below (((Below.refl w_1.heap.size w_1).alloc (by simp) _).alloc (by simp) _), S2.out.2.2.below (((Below.refl w_1.heap.size w_1).alloc (by simp) _).alloc (by simp) _)⟩
  clear S2
  have lC9 : C9 = HA := by rw [hC9, hHA]
  clear hC9
  obtain ⟨is, his⟩ : ∃ is, is = swnB n s r la m t q lb x := ⟨_, rfl⟩
  have HIS := Lib.hid his.symm
  clear his
  have HRA := Lib.hid (fun W ra rb => wins_at (va := va) (vb := vb) (C := C9) (D := C9) hla hlb hs hr ht hq is HIS.out W ra rb)
  have HRS := Lib.hid (fun W ra rb => wins_spec (va := va) (vb := vb) (C := C9) (D := C9) hla hlb hs hr ht hq is HIS.out W ra rb)
  go_upto_region 4 with (fail)
  rw [← hw_3]
  rw [← hHA]
  rw [← hHB]
  clear hw_3 hHA hHB
  obtain ⟨k0_0, k0_1, k0_2⟩ := Box.c S3.out.2.1
  obtain ⟨k1_0, k1_1, k1_2⟩ := Box.c S3.out.2.2.1
  go_wp2_with fail
  clear k0_0 k0_1 k0_2 k1_0 k1_1 k1_2
  refine (HRA.out _ S3.out.2.2.2.1 S3.out.2.2.2.2).mono ?_
  rintro e w_4 ⟨rfl, hb⟩
  have S4 : Hid (Below w.heap.size w w_4 ∧ Box 24 w_4 HA n s r ∧ Box 24 w_4 HB m t q ∧ RU C9 w_4 va la ∧ RU C9 w_4 vb lb) := ⟨S3.out.1.trans (hb.mono S3.out.1.size), S3.out.2.1.below hb S3.out.2.1.lt, S3.out.2.2.1.below hb S3.out.2.2.1.lt, S3.out.2.2.2.1.below hb, S3.out.2.2.2.2.below hb⟩
  clear hb S3
  obtain ⟨k0_0, k0_1, k0_2⟩ := Box.c S4.out.2.1
  obtain ⟨k1_0, k1_1, k1_2⟩ := Box.c S4.out.2.2.1
  go_wp2_with fail
  clear k0_0 k0_1 k0_2 k1_0 k1_1 k1_2
  refine (HRS.out _ S4.out.2.2.2.1 S4.out.2.2.2.2).mono ?_
  rintro e w_5 ⟨rfl, hb⟩
  have S5 : Hid (Below w.heap.size w w_5 ∧ Box 24 w_5 HA n s r ∧ Box 24 w_5 HB m t q ∧ RU C9 w_5 va la ∧ RU C9 w_5 vb lb) := ⟨S4.out.1.trans (hb.mono S4.out.1.size), S4.out.2.1.below hb S4.out.2.1.lt, S4.out.2.2.1.below hb S4.out.2.2.1.lt, S4.out.2.2.2.1.below hb, S4.out.2.2.2.2.below hb⟩
  clear hb S4
  cases is
  · obtain ⟨k0_0, k0_1, k0_2⟩ := Box.c S5.out.2.1
    obtain ⟨k1_0, k1_1, k1_2⟩ := Box.c S5.out.2.2.1
    go_wp2_with fail
    clear k0_0 k0_1 k0_2 k1_0 k1_1 k1_2
    refine (HRS.out _ S5.out.2.2.2.1 S5.out.2.2.2.2).mono ?_
    rintro e w_6 ⟨rfl, hb⟩
    have S6 : Hid (Below w.heap.size w w_6 ∧ Box 24 w_6 HA n s r ∧ Box 24 w_6 HB m t q ∧ RU C9 w_6 va la ∧ RU C9 w_6 vb lb) := ⟨S5.out.1.trans (hb.mono S5.out.1.size), S5.out.2.1.below hb S5.out.2.1.lt, S5.out.2.2.1.below hb S5.out.2.2.1.lt, S5.out.2.2.2.1.below hb, S5.out.2.2.2.2.below hb⟩
    clear hb S5
    go_wp2
    go_ret
    exact ⟨by simp, S6.out.1⟩
  · by_cases hx2 : 2 < x
    · have t2 : decide (2 < x) = true := decide_eq_true hx2
      obtain ⟨k0_0, k0_1, k0_2⟩ := Box.c S5.out.2.1
      obtain ⟨k1_0, k1_1, k1_2⟩ := Box.c S5.out.2.2.1
      go_wp2_with fail
      clear k0_0 k0_1 k0_2 k1_0 k1_1 k1_2
      refine (HRS.out _ S5.out.2.2.2.1 S5.out.2.2.2.2).mono ?_
      rintro e w_6 ⟨rfl, hb⟩
      have S6 : Hid (Below w.heap.size w w_6 ∧ Box 24 w_6 HA n s r ∧ Box 24 w_6 HB m t q ∧ RU C9 w_6 va la ∧ RU C9 w_6 vb lb) := ⟨S5.out.1.trans (hb.mono S5.out.1.size), S5.out.2.1.below hb S5.out.2.1.lt, S5.out.2.2.1.below hb S5.out.2.2.1.lt, S5.out.2.2.2.1.below hb, S5.out.2.2.2.2.below hb⟩
      clear hb S5
      go_wp2
      go_ret
      exact ⟨by simp, S6.out.1⟩
    · have t2 : decide (2 < x) = false := decide_eq_false hx2
      clear HRA HRS
      go_wp2_with fail
      refine (drawSym_any a1 n1 c1 _ (BY1.out.up S5.out.1.size (fun k hk => S5.out.1.block k hk)) nc1 cm1).mono ?_
      rintro e w_6 ⟨c, u, v, rfl, hcw, hu, hv, hb⟩
      have S6 : Hid (Below w.heap.size w w_6 ∧ Box 24 w_6 HA n s r ∧ Box 24 w_6 HB m t q ∧ RU C9 w_6 va la ∧ RU C9 w_6 vb lb) := ⟨S5.out.1.trans (hb.mono S5.out.1.size), S5.out.2.1.below hb S5.out.2.1.lt, S5.out.2.2.1.below hb S5.out.2.2.1.lt, S5.out.2.2.2.1.below hb, S5.out.2.2.2.2.below hb⟩
      clear hb S5
      clear hcw t2
      obtain ⟨w_7, hw_7⟩ : ∃ QZ, QZ = (w_6.alloc (.cells #[.int .i64 c, .string u, .string v] 24)) := ⟨_, rfl⟩
      obtain ⟨HC, hHC⟩ : ∃ QZ, QZ = w_6.heap.size := ⟨_, rfl⟩
      have lHC : HB < HC := by rw [hHC]; exact S6.out.2.2.1.lt
      have zHC : w.heap.size ≤ HC := by rw [hHC]; exact S6.out.1.size
      have S7 : Hid (Below w.heap.size w w_7 ∧ Box 24 w_7 HA n s r ∧ Box 24 w_7 HB m t q ∧ Box 24 w_7 HC c u v ∧ RU C9 w_7 va la ∧ RU C9 w_7 vb lb) := by rw [hw_7]; exact ⟨(S6.out.1).alloc (S6.out.1.size) _, S6.out.2.1.below ((Below.refl w_6.heap.size w_6).alloc (by simp) _) S6.out.2.1.lt, S6.out.2.2.1.below ((Below.refl w_6.heap.size w_6).alloc (by simp) _) S6.out.2.2.1.lt, (Box.new 24 w_6 HC (by first | (rw [hHC]; done) | (rw [hHC]; simp)) c u v), S6.out.2.2.2.1.below ((Below.refl w_6.heap.size w_6).alloc (by simp) _), S6.out.2.2.2.2.below ((Below.refl w_6.heap.size w_6).alloc (by simp) _)⟩
      clear S6
      go_upto_region 8 with (fail)
      rw [← hw_7]
      rw [← hHC]
      clear hw_7 hHC
      cases hvc : validB c u v with
      | false =>
        have HVC := Lib.hid (fun W => valid_at (n := c) hu hv false hvc W)
        clear hvc
        obtain ⟨k0_0, k0_1, k0_2⟩ := Box.c S7.out.2.2.2.1
        go_wp2_with fail
        clear k0_0 k0_1 k0_2
        refine (HVC.out _).mono ?_
        rintro e w_8 ⟨rfl, hb⟩
        have S8 : Hid (Below w.heap.size w w_8 ∧ Box 24 w_8 HA n s r ∧ Box 24 w_8 HB m t q ∧ Box 24 w_8 HC c u v ∧ RU C9 w_8 va la ∧ RU C9 w_8 vb lb) := ⟨S7.out.1.trans (hb.mono S7.out.1.size), S7.out.2.1.below hb S7.out.2.1.lt, S7.out.2.2.1.below hb S7.out.2.2.1.lt, S7.out.2.2.2.1.below hb S7.out.2.2.2.1.lt, S7.out.2.2.2.2.1.below hb, S7.out.2.2.2.2.2.below hb⟩
        clear hb S7
        go_wp2
        go_ret
        exact ⟨rfl, S8.out.1⟩
      | true =>
        have HVC := Lib.hid (fun W => valid_at (n := c) hu hv true hvc W)
        clear hvc
        obtain ⟨k0_0, k0_1, k0_2⟩ := Box.c S7.out.2.2.2.1
        go_wp2_with fail
        clear k0_0 k0_1 k0_2
        refine (HVC.out _).mono ?_
        rintro e w_8 ⟨rfl, hb⟩
        have S8 : Hid (Below w.heap.size w w_8 ∧ Box 24 w_8 HA n s r ∧ Box 24 w_8 HB m t q ∧ Box 24 w_8 HC c u v ∧ RU C9 w_8 va la ∧ RU C9 w_8 vb lb) := ⟨S7.out.1.trans (hb.mono S7.out.1.size), S7.out.2.1.below hb S7.out.2.1.lt, S7.out.2.2.1.below hb S7.out.2.2.1.lt, S7.out.2.2.2.1.below hb S7.out.2.2.2.1.lt, S7.out.2.2.2.2.1.below hb, S7.out.2.2.2.2.2.below hb⟩
        clear hb S7
        obtain ⟨x1a, y1a, z1a, k1a, x2a, y2a, z2a, k2a, hc1, hc2, hg⟩ := first (c := c) HIS.out hs hr ht hq hu hv
        have HC1 := Lib.hid hc1
        have HC2 := Lib.hid hc2
        have HG := Lib.hid hg
        clear hc1 hc2 hg
        obtain ⟨k0_0, k0_1, k0_2⟩ := Box.c S8.out.2.1
        obtain ⟨k1_0, k1_1, k1_2⟩ := Box.c S8.out.2.2.2.1
        go_wp2_with fail
        clear k0_0 k0_1 k0_2 k1_0 k1_1 k1_2
        refine (HC1.out _).mono ?_
        rintro e w_9 ⟨rfl, hb⟩
        have S9 : Hid (Below w.heap.size w w_9 ∧ Box 24 w_9 HA n s r ∧ Box 24 w_9 HB m t q ∧ Box 24 w_9 HC c u v ∧ RU C9 w_9 va la ∧ RU C9 w_9 vb lb) := ⟨S8.out.1.trans (hb.mono S8.out.1.size), S8.out.2.1.below hb S8.out.2.1.lt, S8.out.2.2.1.below hb S8.out.2.2.1.lt, S8.out.2.2.2.1.below hb S8.out.2.2.2.1.lt, S8.out.2.2.2.2.1.below hb, S8.out.2.2.2.2.2.below hb⟩
        clear hb S8
        obtain ⟨w_10, hw_10⟩ : ∃ QZ, QZ = (w_9.alloc (.cells #[.int .i64 x1a, .string y1a, .string z1a] 24)) := ⟨_, rfl⟩
        obtain ⟨HP, hHP⟩ : ∃ QZ, QZ = w_9.heap.size := ⟨_, rfl⟩
        have lHP : HC < HP := by rw [hHP]; exact S9.out.2.2.2.1.lt
        have zHP : w.heap.size ≤ HP := by rw [hHP]; exact S9.out.1.size
        have S10 : Hid (Below w.heap.size w w_10 ∧ Box 24 w_10 HA n s r ∧ Box 24 w_10 HB m t q ∧ Box 24 w_10 HC c u v ∧ Box 24 w_10 HP x1a y1a z1a ∧ RU C9 w_10 va la ∧ RU C9 w_10 vb lb) := by rw [hw_10]; exact ⟨(S9.out.1).alloc (S9.out.1.size) _, S9.out.2.1.below ((Below.refl w_9.heap.size w_9).alloc (by simp) _) S9.out.2.1.lt, S9.out.2.2.1.below ((Below.refl w_9.heap.size w_9).alloc (by simp) _) S9.out.2.2.1.lt, S9.out.2.2.2.1.below ((Below.refl w_9.heap.size w_9).alloc (by simp) _) S9.out.2.2.2.1.lt, (Box.new 24 w_9 HP (by first | (rw [hHP]; done) | (rw [hHP]; simp)) x1a y1a z1a), S9.out.2.2.2.2.1.below ((Below.refl w_9.heap.size w_9).alloc (by simp) _), S9.out.2.2.2.2.2.below ((Below.refl w_9.heap.size w_9).alloc (by simp) _)⟩
        clear S9
        go_upto_region 11 with (fail)
        rw [← hw_10]
        rw [← hHP]
        clear hw_10 hHP
        obtain ⟨k0_0, k0_1, k0_2⟩ := Box.c S10.out.2.2.1
        obtain ⟨k1_0, k1_1, k1_2⟩ := Box.c S10.out.2.2.2.1
        go_wp2_with fail
        clear k0_0 k0_1 k0_2 k1_0 k1_1 k1_2
        refine (HC2.out _).mono ?_
        rintro e w_11 ⟨rfl, hb⟩
        have S11 : Hid (Below w.heap.size w w_11 ∧ Box 24 w_11 HA n s r ∧ Box 24 w_11 HB m t q ∧ Box 24 w_11 HC c u v ∧ Box 24 w_11 HP x1a y1a z1a ∧ RU C9 w_11 va la ∧ RU C9 w_11 vb lb) := ⟨S10.out.1.trans (hb.mono S10.out.1.size), S10.out.2.1.below hb S10.out.2.1.lt, S10.out.2.2.1.below hb S10.out.2.2.1.lt, S10.out.2.2.2.1.below hb S10.out.2.2.2.1.lt, S10.out.2.2.2.2.1.below hb S10.out.2.2.2.2.1.lt, S10.out.2.2.2.2.2.1.below hb, S10.out.2.2.2.2.2.2.below hb⟩
        clear hb S10
        obtain ⟨w_12, hw_12⟩ : ∃ QZ, QZ = (w_11.alloc (.cells #[.int .i64 x2a, .string y2a, .string z2a] 24)) := ⟨_, rfl⟩
        obtain ⟨HQ, hHQ⟩ : ∃ QZ, QZ = w_11.heap.size := ⟨_, rfl⟩
        have lHQ : HP < HQ := by rw [hHQ]; exact S11.out.2.2.2.2.1.lt
        have zHQ : w.heap.size ≤ HQ := by rw [hHQ]; exact S11.out.1.size
        have S12 : Hid (Below w.heap.size w w_12 ∧ Box 24 w_12 HA n s r ∧ Box 24 w_12 HB m t q ∧ Box 24 w_12 HC c u v ∧ Box 24 w_12 HP x1a y1a z1a ∧ Box 24 w_12 HQ x2a y2a z2a ∧ RU C9 w_12 va la ∧ RU C9 w_12 vb lb) := by rw [hw_12]; exact ⟨(S11.out.1).alloc (S11.out.1.size) _, S11.out.2.1.below ((Below.refl w_11.heap.size w_11).alloc (by simp) _) S11.out.2.1.lt, S11.out.2.2.1.below ((Below.refl w_11.heap.size w_11).alloc (by simp) _) S11.out.2.2.1.lt, S11.out.2.2.2.1.below ((Below.refl w_11.heap.size w_11).alloc (by simp) _) S11.out.2.2.2.1.lt, S11.out.2.2.2.2.1.below ((Below.refl w_11.heap.size w_11).alloc (by simp) _) S11.out.2.2.2.2.1.lt, (Box.new 24 w_11 HQ (by first | (rw [hHQ]; done) | (rw [hHQ]; simp)) x2a y2a z2a), S11.out.2.2.2.2.2.1.below ((Below.refl w_11.heap.size w_11).alloc (by simp) _), S11.out.2.2.2.2.2.2.below ((Below.refl w_11.heap.size w_11).alloc (by simp) _)⟩
        clear S11
        go_upto_region 12 with (fail)
        rw [← hw_12]
        rw [← hHQ]
        clear hw_12 hHQ
        go_cut [91] from 79 to 91 (fun tt wx => tt = .bool false ∧ Hid (Below w.heap.size w wx ∧ Box 24 wx HA n s r ∧ Box 24 wx HB m t q ∧ Box 24 wx HC c u v ∧ Box 24 wx HP x1a y1a z1a ∧ Box 24 wx HQ x2a y2a z2a ∧ RU C9 wx va la ∧ RU C9 wx vb lb))
        case first =>
          cases k1a
          · go_wp2
            go_meet
            exact ⟨rfl, S12.out⟩
          · cases k2a
            · go_wp2
              go_meet
              exact ⟨rfl, S12.out⟩
            · have hsw := HG.out (by simp) (by simp)
              obtain ⟨vva, vvb⟩ := swn_valid hsw
              have HR := Lib.hid (fun (C D : Nat) (v1 v2 : Value) W ra rb => wins_at (va := v1) (vb := v2) (C := C) (D := D) hla hlb (valid_small vva).1 (valid_small vva).2 (valid_small vvb).1 (valid_small vvb).2 true hsw W ra rb)
              clear hsw vva vvb
              obtain ⟨k0_0, k0_1, k0_2⟩ := Box.c S12.out.2.2.2.2.1
              obtain ⟨k1_0, k1_1, k1_2⟩ := Box.c S12.out.2.2.2.2.2.1
              go_wp2_with fail
              clear k0_0 k0_1 k0_2 k1_0 k1_1 k1_2
              refine (HR.out _ _ _ _ _ S12.out.2.2.2.2.2.2.1 S12.out.2.2.2.2.2.2.2).mono ?_
              rintro e w_13 ⟨rfl, hb⟩
              have S13 : Hid (Below w.heap.size w w_13 ∧ Box 24 w_13 HA n s r ∧ Box 24 w_13 HB m t q ∧ Box 24 w_13 HC c u v ∧ Box 24 w_13 HP x1a y1a z1a ∧ Box 24 w_13 HQ x2a y2a z2a ∧ RU C9 w_13 va la ∧ RU C9 w_13 vb lb) := ⟨S12.out.1.trans (hb.mono S12.out.1.size), S12.out.2.1.below hb S12.out.2.1.lt, S12.out.2.2.1.below hb S12.out.2.2.1.lt, S12.out.2.2.2.1.below hb S12.out.2.2.2.1.lt, S12.out.2.2.2.2.1.below hb S12.out.2.2.2.2.1.lt, S12.out.2.2.2.2.2.1.below hb S12.out.2.2.2.2.2.1.lt, S12.out.2.2.2.2.2.2.1.below hb, S12.out.2.2.2.2.2.2.2.below hb⟩
              clear hb S12
              go_wp2
              go_meet
              exact ⟨rfl, S13.out⟩
        case rest =>
          obtain ⟨rfl, HSC⟩ := hcut
          clear S12
          have S13 := HSC
          clear HSC
          obtain ⟨x1b, y1b, z1b, k1b, x2b, y2b, z2b, k2b, hc1, hc2, hg⟩ := second (c := c) HIS.out hs hr ht hq hu hv
          have HC1 := Lib.hid hc1
          have HC2 := Lib.hid hc2
          have HG := Lib.hid hg
          clear hc1 hc2 hg
          obtain ⟨k0_0, k0_1, k0_2⟩ := Box.c S13.out.2.2.2.1
          obtain ⟨k1_0, k1_1, k1_2⟩ := Box.c S13.out.2.1
          go_wp2_with fail
          clear k0_0 k0_1 k0_2 k1_0 k1_1 k1_2
          refine (HC1.out _).mono ?_
          rintro e w_14 ⟨rfl, hb⟩
          have S14 : Hid (Below w.heap.size w w_14 ∧ Box 24 w_14 HA n s r ∧ Box 24 w_14 HB m t q ∧ Box 24 w_14 HC c u v ∧ Box 24 w_14 HP x1a y1a z1a ∧ Box 24 w_14 HQ x2a y2a z2a ∧ RU C9 w_14 va la ∧ RU C9 w_14 vb lb) := ⟨S13.out.1.trans (hb.mono S13.out.1.size), S13.out.2.1.below hb S13.out.2.1.lt, S13.out.2.2.1.below hb S13.out.2.2.1.lt, S13.out.2.2.2.1.below hb S13.out.2.2.2.1.lt, S13.out.2.2.2.2.1.below hb S13.out.2.2.2.2.1.lt, S13.out.2.2.2.2.2.1.below hb S13.out.2.2.2.2.2.1.lt, S13.out.2.2.2.2.2.2.1.below hb, S13.out.2.2.2.2.2.2.2.below hb⟩
          clear hb S13
          obtain ⟨z0_, z1_, z2_⟩ := Box.c S14.out.2.2.2.2.1
          have f0_ := Box.free S14.out.2.2.2.2.1 0
          have f1_ := Box.free S14.out.2.2.2.2.1 1
          have f2_ := Box.free S14.out.2.2.2.2.1 2
          obtain ⟨w_15, hw_15⟩ : ∃ QZ, QZ = (((w_14.setCell ⟨HP, 0, none⟩ (.int .i64 x1b)).setCell ⟨HP, 1, none⟩ (.string y1b)).setCell ⟨HP, 2, none⟩ (.string z1b)) := ⟨_, rfl⟩
          have S15 : Hid (Below w.heap.size w w_15 ∧ Box 24 w_15 HA n s r ∧ Box 24 w_15 HB m t q ∧ Box 24 w_15 HC c u v ∧ Box 24 w_15 HP x1b y1b z1b ∧ Box 24 w_15 HQ x2a y2a z2a ∧ RU C9 w_15 va la ∧ RU C9 w_15 vb lb) := by rw [hw_15]; exact ⟨Below.setCell (Below.setCell (Below.setCell S14.out.1 (by simp; omega) _) (by simp; omega) _) (by simp; omega) _, box_others S14.out.2.1 (by omega), box_others S14.out.2.2.1 (by omega), box_others S14.out.2.2.2.1 (by omega), ((Box.set0 S14.out.2.2.2.2.1 x1b).set1 y1b).set2 z1b, box_others S14.out.2.2.2.2.2.1 (by omega), S14.out.2.2.2.2.2.2.1.sets (by omega), S14.out.2.2.2.2.2.2.2.sets (by omega)⟩
          clear S14
          go_upto_region 15 with (fail)
          clear z0_ z1_ z2_ f0_ f1_ f2_
          rw [← hw_15]
          clear hw_15
          obtain ⟨k0_0, k0_1, k0_2⟩ := Box.c S15.out.2.2.2.1
          obtain ⟨k1_0, k1_1, k1_2⟩ := Box.c S15.out.2.2.1
          go_wp2_with fail
          clear k0_0 k0_1 k0_2 k1_0 k1_1 k1_2
          refine (HC2.out _).mono ?_
          rintro e w_16 ⟨rfl, hb⟩
          have S16 : Hid (Below w.heap.size w w_16 ∧ Box 24 w_16 HA n s r ∧ Box 24 w_16 HB m t q ∧ Box 24 w_16 HC c u v ∧ Box 24 w_16 HP x1b y1b z1b ∧ Box 24 w_16 HQ x2a y2a z2a ∧ RU C9 w_16 va la ∧ RU C9 w_16 vb lb) := ⟨S15.out.1.trans (hb.mono S15.out.1.size), S15.out.2.1.below hb S15.out.2.1.lt, S15.out.2.2.1.below hb S15.out.2.2.1.lt, S15.out.2.2.2.1.below hb S15.out.2.2.2.1.lt, S15.out.2.2.2.2.1.below hb S15.out.2.2.2.2.1.lt, S15.out.2.2.2.2.2.1.below hb S15.out.2.2.2.2.2.1.lt, S15.out.2.2.2.2.2.2.1.below hb, S15.out.2.2.2.2.2.2.2.below hb⟩
          clear hb S15
          obtain ⟨z0_, z1_, z2_⟩ := Box.c S16.out.2.2.2.2.2.1
          have f0_ := Box.free S16.out.2.2.2.2.2.1 0
          have f1_ := Box.free S16.out.2.2.2.2.2.1 1
          have f2_ := Box.free S16.out.2.2.2.2.2.1 2
          obtain ⟨w_17, hw_17⟩ : ∃ QZ, QZ = (((w_16.setCell ⟨HQ, 0, none⟩ (.int .i64 x2b)).setCell ⟨HQ, 1, none⟩ (.string y2b)).setCell ⟨HQ, 2, none⟩ (.string z2b)) := ⟨_, rfl⟩
          have S17 : Hid (Below w.heap.size w w_17 ∧ Box 24 w_17 HA n s r ∧ Box 24 w_17 HB m t q ∧ Box 24 w_17 HC c u v ∧ Box 24 w_17 HP x1b y1b z1b ∧ Box 24 w_17 HQ x2b y2b z2b ∧ RU C9 w_17 va la ∧ RU C9 w_17 vb lb) := by rw [hw_17]; exact ⟨Below.setCell (Below.setCell (Below.setCell S16.out.1 (by simp; omega) _) (by simp; omega) _) (by simp; omega) _, box_others S16.out.2.1 (by omega), box_others S16.out.2.2.1 (by omega), box_others S16.out.2.2.2.1 (by omega), box_others S16.out.2.2.2.2.1 (by omega), ((Box.set0 S16.out.2.2.2.2.2.1 x2b).set1 y2b).set2 z2b, S16.out.2.2.2.2.2.2.1.sets (by omega), S16.out.2.2.2.2.2.2.2.sets (by omega)⟩
          clear S16
          go_upto_region 16 with (fail)
          clear z0_ z1_ z2_ f0_ f1_ f2_
          rw [← hw_17]
          clear hw_17
          cases k1b
          · have q0 : ∀ QQ : Wd (fun Q => Q.cell? ⟨HP, 0, none⟩ = some (.int .i64 x1b) ∧ Q.cell? ⟨HP, 1, none⟩ = some (.string y1b) ∧ Q.cell? ⟨HP, 2, none⟩ = some (.string z1b) ∧ Q.cell? ⟨HC, 0, none⟩ = some (.int .i64 c) ∧ Q.cell? ⟨HC, 1, none⟩ = some (.string u) ∧ Q.cell? ⟨HC, 2, none⟩ = some (.string v) ∧ Q.cell? ⟨HQ, 0, none⟩ = some (.int .i64 x2b) ∧ Q.cell? ⟨HQ, 1, none⟩ = some (.string y2b) ∧ Q.cell? ⟨HQ, 2, none⟩ = some (.string z2b)), QQ.w.cell? ⟨HP, 0, none⟩ = some (.int .i64 x1b) := fun QQ => QQ.ok.1
            have q1 : ∀ QQ : Wd (fun Q => Q.cell? ⟨HP, 0, none⟩ = some (.int .i64 x1b) ∧ Q.cell? ⟨HP, 1, none⟩ = some (.string y1b) ∧ Q.cell? ⟨HP, 2, none⟩ = some (.string z1b) ∧ Q.cell? ⟨HC, 0, none⟩ = some (.int .i64 c) ∧ Q.cell? ⟨HC, 1, none⟩ = some (.string u) ∧ Q.cell? ⟨HC, 2, none⟩ = some (.string v) ∧ Q.cell? ⟨HQ, 0, none⟩ = some (.int .i64 x2b) ∧ Q.cell? ⟨HQ, 1, none⟩ = some (.string y2b) ∧ Q.cell? ⟨HQ, 2, none⟩ = some (.string z2b)), QQ.w.cell? ⟨HP, 1, none⟩ = some (.string y1b) := fun QQ => QQ.ok.2.1
            have q2 : ∀ QQ : Wd (fun Q => Q.cell? ⟨HP, 0, none⟩ = some (.int .i64 x1b) ∧ Q.cell? ⟨HP, 1, none⟩ = some (.string y1b) ∧ Q.cell? ⟨HP, 2, none⟩ = some (.string z1b) ∧ Q.cell? ⟨HC, 0, none⟩ = some (.int .i64 c) ∧ Q.cell? ⟨HC, 1, none⟩ = some (.string u) ∧ Q.cell? ⟨HC, 2, none⟩ = some (.string v) ∧ Q.cell? ⟨HQ, 0, none⟩ = some (.int .i64 x2b) ∧ Q.cell? ⟨HQ, 1, none⟩ = some (.string y2b) ∧ Q.cell? ⟨HQ, 2, none⟩ = some (.string z2b)), QQ.w.cell? ⟨HP, 2, none⟩ = some (.string z1b) := fun QQ => QQ.ok.2.2.1
            have q3 : ∀ QQ : Wd (fun Q => Q.cell? ⟨HP, 0, none⟩ = some (.int .i64 x1b) ∧ Q.cell? ⟨HP, 1, none⟩ = some (.string y1b) ∧ Q.cell? ⟨HP, 2, none⟩ = some (.string z1b) ∧ Q.cell? ⟨HC, 0, none⟩ = some (.int .i64 c) ∧ Q.cell? ⟨HC, 1, none⟩ = some (.string u) ∧ Q.cell? ⟨HC, 2, none⟩ = some (.string v) ∧ Q.cell? ⟨HQ, 0, none⟩ = some (.int .i64 x2b) ∧ Q.cell? ⟨HQ, 1, none⟩ = some (.string y2b) ∧ Q.cell? ⟨HQ, 2, none⟩ = some (.string z2b)), QQ.w.cell? ⟨HC, 0, none⟩ = some (.int .i64 c) := fun QQ => QQ.ok.2.2.2.1
            have q4 : ∀ QQ : Wd (fun Q => Q.cell? ⟨HP, 0, none⟩ = some (.int .i64 x1b) ∧ Q.cell? ⟨HP, 1, none⟩ = some (.string y1b) ∧ Q.cell? ⟨HP, 2, none⟩ = some (.string z1b) ∧ Q.cell? ⟨HC, 0, none⟩ = some (.int .i64 c) ∧ Q.cell? ⟨HC, 1, none⟩ = some (.string u) ∧ Q.cell? ⟨HC, 2, none⟩ = some (.string v) ∧ Q.cell? ⟨HQ, 0, none⟩ = some (.int .i64 x2b) ∧ Q.cell? ⟨HQ, 1, none⟩ = some (.string y2b) ∧ Q.cell? ⟨HQ, 2, none⟩ = some (.string z2b)), QQ.w.cell? ⟨HC, 1, none⟩ = some (.string u) := fun QQ => QQ.ok.2.2.2.2.1
            have q5 : ∀ QQ : Wd (fun Q => Q.cell? ⟨HP, 0, none⟩ = some (.int .i64 x1b) ∧ Q.cell? ⟨HP, 1, none⟩ = some (.string y1b) ∧ Q.cell? ⟨HP, 2, none⟩ = some (.string z1b) ∧ Q.cell? ⟨HC, 0, none⟩ = some (.int .i64 c) ∧ Q.cell? ⟨HC, 1, none⟩ = some (.string u) ∧ Q.cell? ⟨HC, 2, none⟩ = some (.string v) ∧ Q.cell? ⟨HQ, 0, none⟩ = some (.int .i64 x2b) ∧ Q.cell? ⟨HQ, 1, none⟩ = some (.string y2b) ∧ Q.cell? ⟨HQ, 2, none⟩ = some (.string z2b)), QQ.w.cell? ⟨HC, 2, none⟩ = some (.string v) := fun QQ => QQ.ok.2.2.2.2.2.1
            have q6 : ∀ QQ : Wd (fun Q => Q.cell? ⟨HP, 0, none⟩ = some (.int .i64 x1b) ∧ Q.cell? ⟨HP, 1, none⟩ = some (.string y1b) ∧ Q.cell? ⟨HP, 2, none⟩ = some (.string z1b) ∧ Q.cell? ⟨HC, 0, none⟩ = some (.int .i64 c) ∧ Q.cell? ⟨HC, 1, none⟩ = some (.string u) ∧ Q.cell? ⟨HC, 2, none⟩ = some (.string v) ∧ Q.cell? ⟨HQ, 0, none⟩ = some (.int .i64 x2b) ∧ Q.cell? ⟨HQ, 1, none⟩ = some (.string y2b) ∧ Q.cell? ⟨HQ, 2, none⟩ = some (.string z2b)), QQ.w.cell? ⟨HQ, 0, none⟩ = some (.int .i64 x2b) := fun QQ => QQ.ok.2.2.2.2.2.2.1
            have q7 : ∀ QQ : Wd (fun Q => Q.cell? ⟨HP, 0, none⟩ = some (.int .i64 x1b) ∧ Q.cell? ⟨HP, 1, none⟩ = some (.string y1b) ∧ Q.cell? ⟨HP, 2, none⟩ = some (.string z1b) ∧ Q.cell? ⟨HC, 0, none⟩ = some (.int .i64 c) ∧ Q.cell? ⟨HC, 1, none⟩ = some (.string u) ∧ Q.cell? ⟨HC, 2, none⟩ = some (.string v) ∧ Q.cell? ⟨HQ, 0, none⟩ = some (.int .i64 x2b) ∧ Q.cell? ⟨HQ, 1, none⟩ = some (.string y2b) ∧ Q.cell? ⟨HQ, 2, none⟩ = some (.string z2b)), QQ.w.cell? ⟨HQ, 1, none⟩ = some (.string y2b) := fun QQ => QQ.ok.2.2.2.2.2.2.2.1
            have q8 : ∀ QQ : Wd (fun Q => Q.cell? ⟨HP, 0, none⟩ = some (.int .i64 x1b) ∧ Q.cell? ⟨HP, 1, none⟩ = some (.string y1b) ∧ Q.cell? ⟨HP, 2, none⟩ = some (.string z1b) ∧ Q.cell? ⟨HC, 0, none⟩ = some (.int .i64 c) ∧ Q.cell? ⟨HC, 1, none⟩ = some (.string u) ∧ Q.cell? ⟨HC, 2, none⟩ = some (.string v) ∧ Q.cell? ⟨HQ, 0, none⟩ = some (.int .i64 x2b) ∧ Q.cell? ⟨HQ, 1, none⟩ = some (.string y2b) ∧ Q.cell? ⟨HQ, 2, none⟩ = some (.string z2b)), QQ.w.cell? ⟨HQ, 2, none⟩ = some (.string z2b) := fun QQ => QQ.ok.2.2.2.2.2.2.2.2
            have hne : Nonempty (Wd (fun Q => Q.cell? ⟨HP, 0, none⟩ = some (.int .i64 x1b) ∧ Q.cell? ⟨HP, 1, none⟩ = some (.string y1b) ∧ Q.cell? ⟨HP, 2, none⟩ = some (.string z1b) ∧ Q.cell? ⟨HC, 0, none⟩ = some (.int .i64 c) ∧ Q.cell? ⟨HC, 1, none⟩ = some (.string u) ∧ Q.cell? ⟨HC, 2, none⟩ = some (.string v) ∧ Q.cell? ⟨HQ, 0, none⟩ = some (.int .i64 x2b) ∧ Q.cell? ⟨HQ, 1, none⟩ = some (.string y2b) ∧ Q.cell? ⟨HQ, 2, none⟩ = some (.string z2b))) := ⟨⟨w_17, ⟨(Box.c S17.out.2.2.2.2.1).1, (Box.c S17.out.2.2.2.2.1).2.1, (Box.c S17.out.2.2.2.2.1).2.2, (Box.c S17.out.2.2.2.1).1, (Box.c S17.out.2.2.2.1).2.1, (Box.c S17.out.2.2.2.1).2.2, (Box.c S17.out.2.2.2.2.2.1).1, (Box.c S17.out.2.2.2.2.2.1).2.1, (Box.c S17.out.2.2.2.2.2.1).2.2⟩⟩⟩
            refine tree (S := (fun Q => Q.cell? ⟨HP, 0, none⟩ = some (.int .i64 x1b) ∧ Q.cell? ⟨HP, 1, none⟩ = some (.string y1b) ∧ Q.cell? ⟨HP, 2, none⟩ = some (.string z1b) ∧ Q.cell? ⟨HC, 0, none⟩ = some (.int .i64 c) ∧ Q.cell? ⟨HC, 1, none⟩ = some (.string u) ∧ Q.cell? ⟨HC, 2, none⟩ = some (.string v) ∧ Q.cell? ⟨HQ, 0, none⟩ = some (.int .i64 x2b) ∧ Q.cell? ⟨HQ, 1, none⟩ = some (.string y2b) ∧ Q.cell? ⟨HQ, 2, none⟩ = some (.string z2b))) (Tr.two [true, true, true, true, true, true, true, true, true, false, true, false, true, true, false, true, false, true] 9 (Tr.two [] 11 (Tr.one [] 14 (Tr.one [] 16 (Tr.one [] 18 (Tr.leaf [false, false, false, false, false, false, false, false, false, false, false, false, false, false, false, false, false, false, false, true, true])))) 14 (Tr.one [] 11 (Tr.one [] 16 (Tr.one [] 18 (Tr.leaf [false, false, false, false, false, false, false, false, false, false, false, false, false, false, false, false, false, false, false, true, true]))))) 14 (Tr.one [] 9 (Tr.one [] 11 (Tr.one [] 16 (Tr.one [] 18 (Tr.leaf [false, false, false, false, false, false, false, false, false, false, false, false, false, false, false, false, false, false, false, true, true])))))) (by kernel_rfl) (by kernel_rfl) (by kernel_rfl) ⟨(Box.c S17.out.2.2.2.2.1).1, (Box.c S17.out.2.2.2.2.1).2.1, (Box.c S17.out.2.2.2.2.1).2.2, (Box.c S17.out.2.2.2.1).1, (Box.c S17.out.2.2.2.1).2.1, (Box.c S17.out.2.2.2.1).2.2, (Box.c S17.out.2.2.2.2.2.1).1, (Box.c S17.out.2.2.2.2.2.1).2.1, (Box.c S17.out.2.2.2.2.2.1).2.2⟩ ?_
            simp only [wpTr, pickB, List.toList_toArray, List.getElem?_toArray, List.getElem?_cons_succ, List.getElem?_cons_zero, Option.toList_some]
            have S18 : Hid (Below w.heap.size w w_17.drew ∧ Box 24 w_17.drew HA n s r ∧ Box 24 w_17.drew HB m t q ∧ Box 24 w_17.drew HC c u v ∧ Box 24 w_17.drew HP x1b y1b z1b ∧ Box 24 w_17.drew HQ x2b y2b z2b ∧ RU C9 w_17.drew va la ∧ RU C9 w_17.drew vb lb) := ⟨S17.out.1.drew, Box.drew S17.out.2.1, Box.drew S17.out.2.2.1, Box.drew S17.out.2.2.2.1, Box.drew S17.out.2.2.2.2.1, Box.drew S17.out.2.2.2.2.2.1, S17.out.2.2.2.2.2.2.1.drew, S17.out.2.2.2.2.2.2.2.drew⟩
            clear S17
            repeat (go_big_quiet_step (fail))
            refine wpQuiet_nil ?_
            constructor
            · intro K hK
              go_wp2_with fail
              refine hK _ _ ⟨(Box.c S18.out.2.2.2.2.1).1, (Box.c S18.out.2.2.2.2.1).2.1, (Box.c S18.out.2.2.2.2.1).2.2, (Box.c S18.out.2.2.2.1).1, (Box.c S18.out.2.2.2.1).2.1, (Box.c S18.out.2.2.2.1).2.2, (Box.c S18.out.2.2.2.2.2.1).1, (Box.c S18.out.2.2.2.2.2.1).2.1, (Box.c S18.out.2.2.2.2.2.1).2.2⟩ ?_
              clear hK K
              repeat (go_big_quiet_step (fail))
              refine wpQuiet_nil ?_
              constructor
              · intro K hK
                go_wp2_with fail
                refine hK _ _ ⟨(Box.c S18.out.2.2.2.2.1).1, (Box.c S18.out.2.2.2.2.1).2.1, (Box.c S18.out.2.2.2.2.1).2.2, (Box.c S18.out.2.2.2.1).1, (Box.c S18.out.2.2.2.1).2.1, (Box.c S18.out.2.2.2.1).2.2, (Box.c S18.out.2.2.2.2.2.1).1, (Box.c S18.out.2.2.2.2.2.1).2.1, (Box.c S18.out.2.2.2.2.2.1).2.2⟩ ?_
                clear hK K
                repeat (go_big_quiet_step (fail))
                refine wpQuiet_nil ?_
                intro K hK
                go_wp2_with fail
                refine hK _ _ ⟨(Box.c S18.out.2.2.2.2.1).1, (Box.c S18.out.2.2.2.2.1).2.1, (Box.c S18.out.2.2.2.2.1).2.2, (Box.c S18.out.2.2.2.1).1, (Box.c S18.out.2.2.2.1).2.1, (Box.c S18.out.2.2.2.1).2.2, (Box.c S18.out.2.2.2.2.2.1).1, (Box.c S18.out.2.2.2.2.2.1).2.1, (Box.c S18.out.2.2.2.2.2.1).2.2⟩ ?_
                clear hK K
                repeat (go_big_quiet_step (fail))
                refine wpQuiet_nil ?_
                intro K hK
                go_wp2_with fail
                refine hK _ _ ⟨(Box.c S18.out.2.2.2.2.1).1, (Box.c S18.out.2.2.2.2.1).2.1, (Box.c S18.out.2.2.2.2.1).2.2, (Box.c S18.out.2.2.2.1).1, (Box.c S18.out.2.2.2.1).2.1, (Box.c S18.out.2.2.2.1).2.2, (Box.c S18.out.2.2.2.2.2.1).1, (Box.c S18.out.2.2.2.2.2.1).2.1, (Box.c S18.out.2.2.2.2.2.1).2.2⟩ ?_
                clear hK K
                repeat (go_big_quiet_step (fail))
                refine wpQuiet_nil ?_
                intro K hK
                go_wp2_with fail
                refine hK _ _ ⟨(Box.c S18.out.2.2.2.2.1).1, (Box.c S18.out.2.2.2.2.1).2.1, (Box.c S18.out.2.2.2.2.1).2.2, (Box.c S18.out.2.2.2.1).1, (Box.c S18.out.2.2.2.1).2.1, (Box.c S18.out.2.2.2.1).2.2, (Box.c S18.out.2.2.2.2.2.1).1, (Box.c S18.out.2.2.2.2.2.1).2.1, (Box.c S18.out.2.2.2.2.2.1).2.2⟩ ?_
                clear hK K
                repeat (go_big_quiet_step (fail))
                refine wpQuiet_nil ?_
                clear q0 q1 q2 q3 q4 q5 q6 q7 q8 hne
                go_wp2
                go_ret
                exact ⟨rfl, S18.out.1⟩
              · intro K hK
                go_wp2_with fail
                refine hK _ _ ⟨(Box.c S18.out.2.2.2.2.1).1, (Box.c S18.out.2.2.2.2.1).2.1, (Box.c S18.out.2.2.2.2.1).2.2, (Box.c S18.out.2.2.2.1).1, (Box.c S18.out.2.2.2.1).2.1, (Box.c S18.out.2.2.2.1).2.2, (Box.c S18.out.2.2.2.2.2.1).1, (Box.c S18.out.2.2.2.2.2.1).2.1, (Box.c S18.out.2.2.2.2.2.1).2.2⟩ ?_
                clear hK K
                repeat (go_big_quiet_step (fail))
                refine wpQuiet_nil ?_
                intro K hK
                go_wp2_with fail
                refine hK _ _ ⟨(Box.c S18.out.2.2.2.2.1).1, (Box.c S18.out.2.2.2.2.1).2.1, (Box.c S18.out.2.2.2.2.1).2.2, (Box.c S18.out.2.2.2.1).1, (Box.c S18.out.2.2.2.1).2.1, (Box.c S18.out.2.2.2.1).2.2, (Box.c S18.out.2.2.2.2.2.1).1, (Box.c S18.out.2.2.2.2.2.1).2.1, (Box.c S18.out.2.2.2.2.2.1).2.2⟩ ?_
                clear hK K
                repeat (go_big_quiet_step (fail))
                refine wpQuiet_nil ?_
                intro K hK
                go_wp2_with fail
                refine hK _ _ ⟨(Box.c S18.out.2.2.2.2.1).1, (Box.c S18.out.2.2.2.2.1).2.1, (Box.c S18.out.2.2.2.2.1).2.2, (Box.c S18.out.2.2.2.1).1, (Box.c S18.out.2.2.2.1).2.1, (Box.c S18.out.2.2.2.1).2.2, (Box.c S18.out.2.2.2.2.2.1).1, (Box.c S18.out.2.2.2.2.2.1).2.1, (Box.c S18.out.2.2.2.2.2.1).2.2⟩ ?_
                clear hK K
                repeat (go_big_quiet_step (fail))
                refine wpQuiet_nil ?_
                intro K hK
                go_wp2_with fail
                refine hK _ _ ⟨(Box.c S18.out.2.2.2.2.1).1, (Box.c S18.out.2.2.2.2.1).2.1, (Box.c S18.out.2.2.2.2.1).2.2, (Box.c S18.out.2.2.2.1).1, (Box.c S18.out.2.2.2.1).2.1, (Box.c S18.out.2.2.2.1).2.2, (Box.c S18.out.2.2.2.2.2.1).1, (Box.c S18.out.2.2.2.2.2.1).2.1, (Box.c S18.out.2.2.2.2.2.1).2.2⟩ ?_
                clear hK K
                repeat (go_big_quiet_step (fail))
                refine wpQuiet_nil ?_
                clear q0 q1 q2 q3 q4 q5 q6 q7 q8 hne
                go_wp2
                go_ret
                exact ⟨rfl, S18.out.1⟩
            · intro K hK
              go_wp2_with fail
              refine hK _ _ ⟨(Box.c S18.out.2.2.2.2.1).1, (Box.c S18.out.2.2.2.2.1).2.1, (Box.c S18.out.2.2.2.2.1).2.2, (Box.c S18.out.2.2.2.1).1, (Box.c S18.out.2.2.2.1).2.1, (Box.c S18.out.2.2.2.1).2.2, (Box.c S18.out.2.2.2.2.2.1).1, (Box.c S18.out.2.2.2.2.2.1).2.1, (Box.c S18.out.2.2.2.2.2.1).2.2⟩ ?_
              clear hK K
              repeat (go_big_quiet_step (fail))
              refine wpQuiet_nil ?_
              intro K hK
              go_wp2_with fail
              refine hK _ _ ⟨(Box.c S18.out.2.2.2.2.1).1, (Box.c S18.out.2.2.2.2.1).2.1, (Box.c S18.out.2.2.2.2.1).2.2, (Box.c S18.out.2.2.2.1).1, (Box.c S18.out.2.2.2.1).2.1, (Box.c S18.out.2.2.2.1).2.2, (Box.c S18.out.2.2.2.2.2.1).1, (Box.c S18.out.2.2.2.2.2.1).2.1, (Box.c S18.out.2.2.2.2.2.1).2.2⟩ ?_
              clear hK K
              repeat (go_big_quiet_step (fail))
              refine wpQuiet_nil ?_
              intro K hK
              go_wp2_with fail
              refine hK _ _ ⟨(Box.c S18.out.2.2.2.2.1).1, (Box.c S18.out.2.2.2.2.1).2.1, (Box.c S18.out.2.2.2.2.1).2.2, (Box.c S18.out.2.2.2.1).1, (Box.c S18.out.2.2.2.1).2.1, (Box.c S18.out.2.2.2.1).2.2, (Box.c S18.out.2.2.2.2.2.1).1, (Box.c S18.out.2.2.2.2.2.1).2.1, (Box.c S18.out.2.2.2.2.2.1).2.2⟩ ?_
              clear hK K
              repeat (go_big_quiet_step (fail))
              refine wpQuiet_nil ?_
              intro K hK
              go_wp2_with fail
              refine hK _ _ ⟨(Box.c S18.out.2.2.2.2.1).1, (Box.c S18.out.2.2.2.2.1).2.1, (Box.c S18.out.2.2.2.2.1).2.2, (Box.c S18.out.2.2.2.1).1, (Box.c S18.out.2.2.2.1).2.1, (Box.c S18.out.2.2.2.1).2.2, (Box.c S18.out.2.2.2.2.2.1).1, (Box.c S18.out.2.2.2.2.2.1).2.1, (Box.c S18.out.2.2.2.2.2.1).2.2⟩ ?_
              clear hK K
              repeat (go_big_quiet_step (fail))
              refine wpQuiet_nil ?_
              intro K hK
              go_wp2_with fail
              refine hK _ _ ⟨(Box.c S18.out.2.2.2.2.1).1, (Box.c S18.out.2.2.2.2.1).2.1, (Box.c S18.out.2.2.2.2.1).2.2, (Box.c S18.out.2.2.2.1).1, (Box.c S18.out.2.2.2.1).2.1, (Box.c S18.out.2.2.2.1).2.2, (Box.c S18.out.2.2.2.2.2.1).1, (Box.c S18.out.2.2.2.2.2.1).2.1, (Box.c S18.out.2.2.2.2.2.1).2.2⟩ ?_
              clear hK K
              repeat (go_big_quiet_step (fail))
              refine wpQuiet_nil ?_
              clear q0 q1 q2 q3 q4 q5 q6 q7 q8 hne
              go_wp2
              go_ret
              exact ⟨rfl, S18.out.1⟩
          · cases k2b
            · have q0 : ∀ QQ : Wd (fun Q => Q.cell? ⟨HP, 0, none⟩ = some (.int .i64 x1b) ∧ Q.cell? ⟨HP, 1, none⟩ = some (.string y1b) ∧ Q.cell? ⟨HP, 2, none⟩ = some (.string z1b) ∧ Q.cell? ⟨HC, 0, none⟩ = some (.int .i64 c) ∧ Q.cell? ⟨HC, 1, none⟩ = some (.string u) ∧ Q.cell? ⟨HC, 2, none⟩ = some (.string v) ∧ Q.cell? ⟨HQ, 0, none⟩ = some (.int .i64 x2b) ∧ Q.cell? ⟨HQ, 1, none⟩ = some (.string y2b) ∧ Q.cell? ⟨HQ, 2, none⟩ = some (.string z2b)), QQ.w.cell? ⟨HP, 0, none⟩ = some (.int .i64 x1b) := fun QQ => QQ.ok.1
              have q1 : ∀ QQ : Wd (fun Q => Q.cell? ⟨HP, 0, none⟩ = some (.int .i64 x1b) ∧ Q.cell? ⟨HP, 1, none⟩ = some (.string y1b) ∧ Q.cell? ⟨HP, 2, none⟩ = some (.string z1b) ∧ Q.cell? ⟨HC, 0, none⟩ = some (.int .i64 c) ∧ Q.cell? ⟨HC, 1, none⟩ = some (.string u) ∧ Q.cell? ⟨HC, 2, none⟩ = some (.string v) ∧ Q.cell? ⟨HQ, 0, none⟩ = some (.int .i64 x2b) ∧ Q.cell? ⟨HQ, 1, none⟩ = some (.string y2b) ∧ Q.cell? ⟨HQ, 2, none⟩ = some (.string z2b)), QQ.w.cell? ⟨HP, 1, none⟩ = some (.string y1b) := fun QQ => QQ.ok.2.1
              have q2 : ∀ QQ : Wd (fun Q => Q.cell? ⟨HP, 0, none⟩ = some (.int .i64 x1b) ∧ Q.cell? ⟨HP, 1, none⟩ = some (.string y1b) ∧ Q.cell? ⟨HP, 2, none⟩ = some (.string z1b) ∧ Q.cell? ⟨HC, 0, none⟩ = some (.int .i64 c) ∧ Q.cell? ⟨HC, 1, none⟩ = some (.string u) ∧ Q.cell? ⟨HC, 2, none⟩ = some (.string v) ∧ Q.cell? ⟨HQ, 0, none⟩ = some (.int .i64 x2b) ∧ Q.cell? ⟨HQ, 1, none⟩ = some (.string y2b) ∧ Q.cell? ⟨HQ, 2, none⟩ = some (.string z2b)), QQ.w.cell? ⟨HP, 2, none⟩ = some (.string z1b) := fun QQ => QQ.ok.2.2.1
              have q3 : ∀ QQ : Wd (fun Q => Q.cell? ⟨HP, 0, none⟩ = some (.int .i64 x1b) ∧ Q.cell? ⟨HP, 1, none⟩ = some (.string y1b) ∧ Q.cell? ⟨HP, 2, none⟩ = some (.string z1b) ∧ Q.cell? ⟨HC, 0, none⟩ = some (.int .i64 c) ∧ Q.cell? ⟨HC, 1, none⟩ = some (.string u) ∧ Q.cell? ⟨HC, 2, none⟩ = some (.string v) ∧ Q.cell? ⟨HQ, 0, none⟩ = some (.int .i64 x2b) ∧ Q.cell? ⟨HQ, 1, none⟩ = some (.string y2b) ∧ Q.cell? ⟨HQ, 2, none⟩ = some (.string z2b)), QQ.w.cell? ⟨HC, 0, none⟩ = some (.int .i64 c) := fun QQ => QQ.ok.2.2.2.1
              have q4 : ∀ QQ : Wd (fun Q => Q.cell? ⟨HP, 0, none⟩ = some (.int .i64 x1b) ∧ Q.cell? ⟨HP, 1, none⟩ = some (.string y1b) ∧ Q.cell? ⟨HP, 2, none⟩ = some (.string z1b) ∧ Q.cell? ⟨HC, 0, none⟩ = some (.int .i64 c) ∧ Q.cell? ⟨HC, 1, none⟩ = some (.string u) ∧ Q.cell? ⟨HC, 2, none⟩ = some (.string v) ∧ Q.cell? ⟨HQ, 0, none⟩ = some (.int .i64 x2b) ∧ Q.cell? ⟨HQ, 1, none⟩ = some (.string y2b) ∧ Q.cell? ⟨HQ, 2, none⟩ = some (.string z2b)), QQ.w.cell? ⟨HC, 1, none⟩ = some (.string u) := fun QQ => QQ.ok.2.2.2.2.1
              have q5 : ∀ QQ : Wd (fun Q => Q.cell? ⟨HP, 0, none⟩ = some (.int .i64 x1b) ∧ Q.cell? ⟨HP, 1, none⟩ = some (.string y1b) ∧ Q.cell? ⟨HP, 2, none⟩ = some (.string z1b) ∧ Q.cell? ⟨HC, 0, none⟩ = some (.int .i64 c) ∧ Q.cell? ⟨HC, 1, none⟩ = some (.string u) ∧ Q.cell? ⟨HC, 2, none⟩ = some (.string v) ∧ Q.cell? ⟨HQ, 0, none⟩ = some (.int .i64 x2b) ∧ Q.cell? ⟨HQ, 1, none⟩ = some (.string y2b) ∧ Q.cell? ⟨HQ, 2, none⟩ = some (.string z2b)), QQ.w.cell? ⟨HC, 2, none⟩ = some (.string v) := fun QQ => QQ.ok.2.2.2.2.2.1
              have q6 : ∀ QQ : Wd (fun Q => Q.cell? ⟨HP, 0, none⟩ = some (.int .i64 x1b) ∧ Q.cell? ⟨HP, 1, none⟩ = some (.string y1b) ∧ Q.cell? ⟨HP, 2, none⟩ = some (.string z1b) ∧ Q.cell? ⟨HC, 0, none⟩ = some (.int .i64 c) ∧ Q.cell? ⟨HC, 1, none⟩ = some (.string u) ∧ Q.cell? ⟨HC, 2, none⟩ = some (.string v) ∧ Q.cell? ⟨HQ, 0, none⟩ = some (.int .i64 x2b) ∧ Q.cell? ⟨HQ, 1, none⟩ = some (.string y2b) ∧ Q.cell? ⟨HQ, 2, none⟩ = some (.string z2b)), QQ.w.cell? ⟨HQ, 0, none⟩ = some (.int .i64 x2b) := fun QQ => QQ.ok.2.2.2.2.2.2.1
              have q7 : ∀ QQ : Wd (fun Q => Q.cell? ⟨HP, 0, none⟩ = some (.int .i64 x1b) ∧ Q.cell? ⟨HP, 1, none⟩ = some (.string y1b) ∧ Q.cell? ⟨HP, 2, none⟩ = some (.string z1b) ∧ Q.cell? ⟨HC, 0, none⟩ = some (.int .i64 c) ∧ Q.cell? ⟨HC, 1, none⟩ = some (.string u) ∧ Q.cell? ⟨HC, 2, none⟩ = some (.string v) ∧ Q.cell? ⟨HQ, 0, none⟩ = some (.int .i64 x2b) ∧ Q.cell? ⟨HQ, 1, none⟩ = some (.string y2b) ∧ Q.cell? ⟨HQ, 2, none⟩ = some (.string z2b)), QQ.w.cell? ⟨HQ, 1, none⟩ = some (.string y2b) := fun QQ => QQ.ok.2.2.2.2.2.2.2.1
              have q8 : ∀ QQ : Wd (fun Q => Q.cell? ⟨HP, 0, none⟩ = some (.int .i64 x1b) ∧ Q.cell? ⟨HP, 1, none⟩ = some (.string y1b) ∧ Q.cell? ⟨HP, 2, none⟩ = some (.string z1b) ∧ Q.cell? ⟨HC, 0, none⟩ = some (.int .i64 c) ∧ Q.cell? ⟨HC, 1, none⟩ = some (.string u) ∧ Q.cell? ⟨HC, 2, none⟩ = some (.string v) ∧ Q.cell? ⟨HQ, 0, none⟩ = some (.int .i64 x2b) ∧ Q.cell? ⟨HQ, 1, none⟩ = some (.string y2b) ∧ Q.cell? ⟨HQ, 2, none⟩ = some (.string z2b)), QQ.w.cell? ⟨HQ, 2, none⟩ = some (.string z2b) := fun QQ => QQ.ok.2.2.2.2.2.2.2.2
              have hne : Nonempty (Wd (fun Q => Q.cell? ⟨HP, 0, none⟩ = some (.int .i64 x1b) ∧ Q.cell? ⟨HP, 1, none⟩ = some (.string y1b) ∧ Q.cell? ⟨HP, 2, none⟩ = some (.string z1b) ∧ Q.cell? ⟨HC, 0, none⟩ = some (.int .i64 c) ∧ Q.cell? ⟨HC, 1, none⟩ = some (.string u) ∧ Q.cell? ⟨HC, 2, none⟩ = some (.string v) ∧ Q.cell? ⟨HQ, 0, none⟩ = some (.int .i64 x2b) ∧ Q.cell? ⟨HQ, 1, none⟩ = some (.string y2b) ∧ Q.cell? ⟨HQ, 2, none⟩ = some (.string z2b))) := ⟨⟨w_17, ⟨(Box.c S17.out.2.2.2.2.1).1, (Box.c S17.out.2.2.2.2.1).2.1, (Box.c S17.out.2.2.2.2.1).2.2, (Box.c S17.out.2.2.2.1).1, (Box.c S17.out.2.2.2.1).2.1, (Box.c S17.out.2.2.2.1).2.2, (Box.c S17.out.2.2.2.2.2.1).1, (Box.c S17.out.2.2.2.2.2.1).2.1, (Box.c S17.out.2.2.2.2.2.1).2.2⟩⟩⟩
              refine tree (S := (fun Q => Q.cell? ⟨HP, 0, none⟩ = some (.int .i64 x1b) ∧ Q.cell? ⟨HP, 1, none⟩ = some (.string y1b) ∧ Q.cell? ⟨HP, 2, none⟩ = some (.string z1b) ∧ Q.cell? ⟨HC, 0, none⟩ = some (.int .i64 c) ∧ Q.cell? ⟨HC, 1, none⟩ = some (.string u) ∧ Q.cell? ⟨HC, 2, none⟩ = some (.string v) ∧ Q.cell? ⟨HQ, 0, none⟩ = some (.int .i64 x2b) ∧ Q.cell? ⟨HQ, 1, none⟩ = some (.string y2b) ∧ Q.cell? ⟨HQ, 2, none⟩ = some (.string z2b))) (Tr.two [true, true, true, true, true, true, true, true, true, false, true, false, true, true, false, true, false, true] 9 (Tr.two [] 11 (Tr.one [] 14 (Tr.one [] 16 (Tr.one [] 18 (Tr.leaf [false, false, false, false, false, false, false, false, false, false, false, false, false, false, false, false, false, false, false, true, true])))) 14 (Tr.one [] 11 (Tr.one [] 16 (Tr.one [] 18 (Tr.leaf [false, false, false, false, false, false, false, false, false, false, false, false, false, false, false, false, false, false, false, true, true]))))) 14 (Tr.one [] 9 (Tr.one [] 11 (Tr.one [] 16 (Tr.one [] 18 (Tr.leaf [false, false, false, false, false, false, false, false, false, false, false, false, false, false, false, false, false, false, false, true, true])))))) (by kernel_rfl) (by kernel_rfl) (by kernel_rfl) ⟨(Box.c S17.out.2.2.2.2.1).1, (Box.c S17.out.2.2.2.2.1).2.1, (Box.c S17.out.2.2.2.2.1).2.2, (Box.c S17.out.2.2.2.1).1, (Box.c S17.out.2.2.2.1).2.1, (Box.c S17.out.2.2.2.1).2.2, (Box.c S17.out.2.2.2.2.2.1).1, (Box.c S17.out.2.2.2.2.2.1).2.1, (Box.c S17.out.2.2.2.2.2.1).2.2⟩ ?_
              simp only [wpTr, pickB, List.toList_toArray, List.getElem?_toArray, List.getElem?_cons_succ, List.getElem?_cons_zero, Option.toList_some]
              have S18 : Hid (Below w.heap.size w w_17.drew ∧ Box 24 w_17.drew HA n s r ∧ Box 24 w_17.drew HB m t q ∧ Box 24 w_17.drew HC c u v ∧ Box 24 w_17.drew HP x1b y1b z1b ∧ Box 24 w_17.drew HQ x2b y2b z2b ∧ RU C9 w_17.drew va la ∧ RU C9 w_17.drew vb lb) := ⟨S17.out.1.drew, Box.drew S17.out.2.1, Box.drew S17.out.2.2.1, Box.drew S17.out.2.2.2.1, Box.drew S17.out.2.2.2.2.1, Box.drew S17.out.2.2.2.2.2.1, S17.out.2.2.2.2.2.2.1.drew, S17.out.2.2.2.2.2.2.2.drew⟩
              clear S17
              repeat (go_big_quiet_step (fail))
              refine wpQuiet_nil ?_
              constructor
              · intro K hK
                go_wp2_with fail
                refine hK _ _ ⟨(Box.c S18.out.2.2.2.2.1).1, (Box.c S18.out.2.2.2.2.1).2.1, (Box.c S18.out.2.2.2.2.1).2.2, (Box.c S18.out.2.2.2.1).1, (Box.c S18.out.2.2.2.1).2.1, (Box.c S18.out.2.2.2.1).2.2, (Box.c S18.out.2.2.2.2.2.1).1, (Box.c S18.out.2.2.2.2.2.1).2.1, (Box.c S18.out.2.2.2.2.2.1).2.2⟩ ?_
                clear hK K
                repeat (go_big_quiet_step (fail))
                refine wpQuiet_nil ?_
                constructor
                · intro K hK
                  go_wp2_with fail
                  refine hK _ _ ⟨(Box.c S18.out.2.2.2.2.1).1, (Box.c S18.out.2.2.2.2.1).2.1, (Box.c S18.out.2.2.2.2.1).2.2, (Box.c S18.out.2.2.2.1).1, (Box.c S18.out.2.2.2.1).2.1, (Box.c S18.out.2.2.2.1).2.2, (Box.c S18.out.2.2.2.2.2.1).1, (Box.c S18.out.2.2.2.2.2.1).2.1, (Box.c S18.out.2.2.2.2.2.1).2.2⟩ ?_
                  clear hK K
                  repeat (go_big_quiet_step (fail))
                  refine wpQuiet_nil ?_
                  intro K hK
                  go_wp2_with fail
                  refine hK _ _ ⟨(Box.c S18.out.2.2.2.2.1).1, (Box.c S18.out.2.2.2.2.1).2.1, (Box.c S18.out.2.2.2.2.1).2.2, (Box.c S18.out.2.2.2.1).1, (Box.c S18.out.2.2.2.1).2.1, (Box.c S18.out.2.2.2.1).2.2, (Box.c S18.out.2.2.2.2.2.1).1, (Box.c S18.out.2.2.2.2.2.1).2.1, (Box.c S18.out.2.2.2.2.2.1).2.2⟩ ?_
                  clear hK K
                  repeat (go_big_quiet_step (fail))
                  refine wpQuiet_nil ?_
                  intro K hK
                  go_wp2_with fail
                  refine hK _ _ ⟨(Box.c S18.out.2.2.2.2.1).1, (Box.c S18.out.2.2.2.2.1).2.1, (Box.c S18.out.2.2.2.2.1).2.2, (Box.c S18.out.2.2.2.1).1, (Box.c S18.out.2.2.2.1).2.1, (Box.c S18.out.2.2.2.1).2.2, (Box.c S18.out.2.2.2.2.2.1).1, (Box.c S18.out.2.2.2.2.2.1).2.1, (Box.c S18.out.2.2.2.2.2.1).2.2⟩ ?_
                  clear hK K
                  repeat (go_big_quiet_step (fail))
                  refine wpQuiet_nil ?_
                  intro K hK
                  go_wp2_with fail
                  refine hK _ _ ⟨(Box.c S18.out.2.2.2.2.1).1, (Box.c S18.out.2.2.2.2.1).2.1, (Box.c S18.out.2.2.2.2.1).2.2, (Box.c S18.out.2.2.2.1).1, (Box.c S18.out.2.2.2.1).2.1, (Box.c S18.out.2.2.2.1).2.2, (Box.c S18.out.2.2.2.2.2.1).1, (Box.c S18.out.2.2.2.2.2.1).2.1, (Box.c S18.out.2.2.2.2.2.1).2.2⟩ ?_
                  clear hK K
                  repeat (go_big_quiet_step (fail))
                  refine wpQuiet_nil ?_
                  clear q0 q1 q2 q3 q4 q5 q6 q7 q8 hne
                  go_wp2
                  go_ret
                  exact ⟨rfl, S18.out.1⟩
                · intro K hK
                  go_wp2_with fail
                  refine hK _ _ ⟨(Box.c S18.out.2.2.2.2.1).1, (Box.c S18.out.2.2.2.2.1).2.1, (Box.c S18.out.2.2.2.2.1).2.2, (Box.c S18.out.2.2.2.1).1, (Box.c S18.out.2.2.2.1).2.1, (Box.c S18.out.2.2.2.1).2.2, (Box.c S18.out.2.2.2.2.2.1).1, (Box.c S18.out.2.2.2.2.2.1).2.1, (Box.c S18.out.2.2.2.2.2.1).2.2⟩ ?_
                  clear hK K
                  repeat (go_big_quiet_step (fail))
                  refine wpQuiet_nil ?_
                  intro K hK
                  go_wp2_with fail
                  refine hK _ _ ⟨(Box.c S18.out.2.2.2.2.1).1, (Box.c S18.out.2.2.2.2.1).2.1, (Box.c S18.out.2.2.2.2.1).2.2, (Box.c S18.out.2.2.2.1).1, (Box.c S18.out.2.2.2.1).2.1, (Box.c S18.out.2.2.2.1).2.2, (Box.c S18.out.2.2.2.2.2.1).1, (Box.c S18.out.2.2.2.2.2.1).2.1, (Box.c S18.out.2.2.2.2.2.1).2.2⟩ ?_
                  clear hK K
                  repeat (go_big_quiet_step (fail))
                  refine wpQuiet_nil ?_
                  intro K hK
                  go_wp2_with fail
                  refine hK _ _ ⟨(Box.c S18.out.2.2.2.2.1).1, (Box.c S18.out.2.2.2.2.1).2.1, (Box.c S18.out.2.2.2.2.1).2.2, (Box.c S18.out.2.2.2.1).1, (Box.c S18.out.2.2.2.1).2.1, (Box.c S18.out.2.2.2.1).2.2, (Box.c S18.out.2.2.2.2.2.1).1, (Box.c S18.out.2.2.2.2.2.1).2.1, (Box.c S18.out.2.2.2.2.2.1).2.2⟩ ?_
                  clear hK K
                  repeat (go_big_quiet_step (fail))
                  refine wpQuiet_nil ?_
                  intro K hK
                  go_wp2_with fail
                  refine hK _ _ ⟨(Box.c S18.out.2.2.2.2.1).1, (Box.c S18.out.2.2.2.2.1).2.1, (Box.c S18.out.2.2.2.2.1).2.2, (Box.c S18.out.2.2.2.1).1, (Box.c S18.out.2.2.2.1).2.1, (Box.c S18.out.2.2.2.1).2.2, (Box.c S18.out.2.2.2.2.2.1).1, (Box.c S18.out.2.2.2.2.2.1).2.1, (Box.c S18.out.2.2.2.2.2.1).2.2⟩ ?_
                  clear hK K
                  repeat (go_big_quiet_step (fail))
                  refine wpQuiet_nil ?_
                  clear q0 q1 q2 q3 q4 q5 q6 q7 q8 hne
                  go_wp2
                  go_ret
                  exact ⟨rfl, S18.out.1⟩
              · intro K hK
                go_wp2_with fail
                refine hK _ _ ⟨(Box.c S18.out.2.2.2.2.1).1, (Box.c S18.out.2.2.2.2.1).2.1, (Box.c S18.out.2.2.2.2.1).2.2, (Box.c S18.out.2.2.2.1).1, (Box.c S18.out.2.2.2.1).2.1, (Box.c S18.out.2.2.2.1).2.2, (Box.c S18.out.2.2.2.2.2.1).1, (Box.c S18.out.2.2.2.2.2.1).2.1, (Box.c S18.out.2.2.2.2.2.1).2.2⟩ ?_
                clear hK K
                repeat (go_big_quiet_step (fail))
                refine wpQuiet_nil ?_
                intro K hK
                go_wp2_with fail
                refine hK _ _ ⟨(Box.c S18.out.2.2.2.2.1).1, (Box.c S18.out.2.2.2.2.1).2.1, (Box.c S18.out.2.2.2.2.1).2.2, (Box.c S18.out.2.2.2.1).1, (Box.c S18.out.2.2.2.1).2.1, (Box.c S18.out.2.2.2.1).2.2, (Box.c S18.out.2.2.2.2.2.1).1, (Box.c S18.out.2.2.2.2.2.1).2.1, (Box.c S18.out.2.2.2.2.2.1).2.2⟩ ?_
                clear hK K
                repeat (go_big_quiet_step (fail))
                refine wpQuiet_nil ?_
                intro K hK
                go_wp2_with fail
                refine hK _ _ ⟨(Box.c S18.out.2.2.2.2.1).1, (Box.c S18.out.2.2.2.2.1).2.1, (Box.c S18.out.2.2.2.2.1).2.2, (Box.c S18.out.2.2.2.1).1, (Box.c S18.out.2.2.2.1).2.1, (Box.c S18.out.2.2.2.1).2.2, (Box.c S18.out.2.2.2.2.2.1).1, (Box.c S18.out.2.2.2.2.2.1).2.1, (Box.c S18.out.2.2.2.2.2.1).2.2⟩ ?_
                clear hK K
                repeat (go_big_quiet_step (fail))
                refine wpQuiet_nil ?_
                intro K hK
                go_wp2_with fail
                refine hK _ _ ⟨(Box.c S18.out.2.2.2.2.1).1, (Box.c S18.out.2.2.2.2.1).2.1, (Box.c S18.out.2.2.2.2.1).2.2, (Box.c S18.out.2.2.2.1).1, (Box.c S18.out.2.2.2.1).2.1, (Box.c S18.out.2.2.2.1).2.2, (Box.c S18.out.2.2.2.2.2.1).1, (Box.c S18.out.2.2.2.2.2.1).2.1, (Box.c S18.out.2.2.2.2.2.1).2.2⟩ ?_
                clear hK K
                repeat (go_big_quiet_step (fail))
                refine wpQuiet_nil ?_
                intro K hK
                go_wp2_with fail
                refine hK _ _ ⟨(Box.c S18.out.2.2.2.2.1).1, (Box.c S18.out.2.2.2.2.1).2.1, (Box.c S18.out.2.2.2.2.1).2.2, (Box.c S18.out.2.2.2.1).1, (Box.c S18.out.2.2.2.1).2.1, (Box.c S18.out.2.2.2.1).2.2, (Box.c S18.out.2.2.2.2.2.1).1, (Box.c S18.out.2.2.2.2.2.1).2.1, (Box.c S18.out.2.2.2.2.2.1).2.2⟩ ?_
                clear hK K
                repeat (go_big_quiet_step (fail))
                refine wpQuiet_nil ?_
                clear q0 q1 q2 q3 q4 q5 q6 q7 q8 hne
                go_wp2
                go_ret
                exact ⟨rfl, S18.out.1⟩
            · have hsw := HG.out (by simp) (by simp)
              obtain ⟨vva, vvb⟩ := swn_valid hsw
              have HR := Lib.hid (fun (C D : Nat) (v1 v2 : Value) W ra rb => wins_at (va := v1) (vb := v2) (C := C) (D := D) (by rw [join_len]; exact hla) (by rw [join_len]; exact hlb) (valid_small vva).1 (valid_small vva).2 (valid_small vvb).1 (valid_small vvb).2 true hsw W ra rb)
              clear hsw vva vvb
              have q0 : ∀ QQ : Wd (fun Q => Q.cell? ⟨HP, 0, none⟩ = some (.int .i64 x1b) ∧ Q.cell? ⟨HP, 1, none⟩ = some (.string y1b) ∧ Q.cell? ⟨HP, 2, none⟩ = some (.string z1b) ∧ Q.cell? ⟨HC, 0, none⟩ = some (.int .i64 c) ∧ Q.cell? ⟨HC, 1, none⟩ = some (.string u) ∧ Q.cell? ⟨HC, 2, none⟩ = some (.string v) ∧ Q.cell? ⟨HQ, 0, none⟩ = some (.int .i64 x2b) ∧ Q.cell? ⟨HQ, 1, none⟩ = some (.string y2b) ∧ Q.cell? ⟨HQ, 2, none⟩ = some (.string z2b)), QQ.w.cell? ⟨HP, 0, none⟩ = some (.int .i64 x1b) := fun QQ => QQ.ok.1
              have q1 : ∀ QQ : Wd (fun Q => Q.cell? ⟨HP, 0, none⟩ = some (.int .i64 x1b) ∧ Q.cell? ⟨HP, 1, none⟩ = some (.string y1b) ∧ Q.cell? ⟨HP, 2, none⟩ = some (.string z1b) ∧ Q.cell? ⟨HC, 0, none⟩ = some (.int .i64 c) ∧ Q.cell? ⟨HC, 1, none⟩ = some (.string u) ∧ Q.cell? ⟨HC, 2, none⟩ = some (.string v) ∧ Q.cell? ⟨HQ, 0, none⟩ = some (.int .i64 x2b) ∧ Q.cell? ⟨HQ, 1, none⟩ = some (.string y2b) ∧ Q.cell? ⟨HQ, 2, none⟩ = some (.string z2b)), QQ.w.cell? ⟨HP, 1, none⟩ = some (.string y1b) := fun QQ => QQ.ok.2.1
              have q2 : ∀ QQ : Wd (fun Q => Q.cell? ⟨HP, 0, none⟩ = some (.int .i64 x1b) ∧ Q.cell? ⟨HP, 1, none⟩ = some (.string y1b) ∧ Q.cell? ⟨HP, 2, none⟩ = some (.string z1b) ∧ Q.cell? ⟨HC, 0, none⟩ = some (.int .i64 c) ∧ Q.cell? ⟨HC, 1, none⟩ = some (.string u) ∧ Q.cell? ⟨HC, 2, none⟩ = some (.string v) ∧ Q.cell? ⟨HQ, 0, none⟩ = some (.int .i64 x2b) ∧ Q.cell? ⟨HQ, 1, none⟩ = some (.string y2b) ∧ Q.cell? ⟨HQ, 2, none⟩ = some (.string z2b)), QQ.w.cell? ⟨HP, 2, none⟩ = some (.string z1b) := fun QQ => QQ.ok.2.2.1
              have q3 : ∀ QQ : Wd (fun Q => Q.cell? ⟨HP, 0, none⟩ = some (.int .i64 x1b) ∧ Q.cell? ⟨HP, 1, none⟩ = some (.string y1b) ∧ Q.cell? ⟨HP, 2, none⟩ = some (.string z1b) ∧ Q.cell? ⟨HC, 0, none⟩ = some (.int .i64 c) ∧ Q.cell? ⟨HC, 1, none⟩ = some (.string u) ∧ Q.cell? ⟨HC, 2, none⟩ = some (.string v) ∧ Q.cell? ⟨HQ, 0, none⟩ = some (.int .i64 x2b) ∧ Q.cell? ⟨HQ, 1, none⟩ = some (.string y2b) ∧ Q.cell? ⟨HQ, 2, none⟩ = some (.string z2b)), QQ.w.cell? ⟨HC, 0, none⟩ = some (.int .i64 c) := fun QQ => QQ.ok.2.2.2.1
              have q4 : ∀ QQ : Wd (fun Q => Q.cell? ⟨HP, 0, none⟩ = some (.int .i64 x1b) ∧ Q.cell? ⟨HP, 1, none⟩ = some (.string y1b) ∧ Q.cell? ⟨HP, 2, none⟩ = some (.string z1b) ∧ Q.cell? ⟨HC, 0, none⟩ = some (.int .i64 c) ∧ Q.cell? ⟨HC, 1, none⟩ = some (.string u) ∧ Q.cell? ⟨HC, 2, none⟩ = some (.string v) ∧ Q.cell? ⟨HQ, 0, none⟩ = some (.int .i64 x2b) ∧ Q.cell? ⟨HQ, 1, none⟩ = some (.string y2b) ∧ Q.cell? ⟨HQ, 2, none⟩ = some (.string z2b)), QQ.w.cell? ⟨HC, 1, none⟩ = some (.string u) := fun QQ => QQ.ok.2.2.2.2.1
              have q5 : ∀ QQ : Wd (fun Q => Q.cell? ⟨HP, 0, none⟩ = some (.int .i64 x1b) ∧ Q.cell? ⟨HP, 1, none⟩ = some (.string y1b) ∧ Q.cell? ⟨HP, 2, none⟩ = some (.string z1b) ∧ Q.cell? ⟨HC, 0, none⟩ = some (.int .i64 c) ∧ Q.cell? ⟨HC, 1, none⟩ = some (.string u) ∧ Q.cell? ⟨HC, 2, none⟩ = some (.string v) ∧ Q.cell? ⟨HQ, 0, none⟩ = some (.int .i64 x2b) ∧ Q.cell? ⟨HQ, 1, none⟩ = some (.string y2b) ∧ Q.cell? ⟨HQ, 2, none⟩ = some (.string z2b)), QQ.w.cell? ⟨HC, 2, none⟩ = some (.string v) := fun QQ => QQ.ok.2.2.2.2.2.1
              have q6 : ∀ QQ : Wd (fun Q => Q.cell? ⟨HP, 0, none⟩ = some (.int .i64 x1b) ∧ Q.cell? ⟨HP, 1, none⟩ = some (.string y1b) ∧ Q.cell? ⟨HP, 2, none⟩ = some (.string z1b) ∧ Q.cell? ⟨HC, 0, none⟩ = some (.int .i64 c) ∧ Q.cell? ⟨HC, 1, none⟩ = some (.string u) ∧ Q.cell? ⟨HC, 2, none⟩ = some (.string v) ∧ Q.cell? ⟨HQ, 0, none⟩ = some (.int .i64 x2b) ∧ Q.cell? ⟨HQ, 1, none⟩ = some (.string y2b) ∧ Q.cell? ⟨HQ, 2, none⟩ = some (.string z2b)), QQ.w.cell? ⟨HQ, 0, none⟩ = some (.int .i64 x2b) := fun QQ => QQ.ok.2.2.2.2.2.2.1
              have q7 : ∀ QQ : Wd (fun Q => Q.cell? ⟨HP, 0, none⟩ = some (.int .i64 x1b) ∧ Q.cell? ⟨HP, 1, none⟩ = some (.string y1b) ∧ Q.cell? ⟨HP, 2, none⟩ = some (.string z1b) ∧ Q.cell? ⟨HC, 0, none⟩ = some (.int .i64 c) ∧ Q.cell? ⟨HC, 1, none⟩ = some (.string u) ∧ Q.cell? ⟨HC, 2, none⟩ = some (.string v) ∧ Q.cell? ⟨HQ, 0, none⟩ = some (.int .i64 x2b) ∧ Q.cell? ⟨HQ, 1, none⟩ = some (.string y2b) ∧ Q.cell? ⟨HQ, 2, none⟩ = some (.string z2b)), QQ.w.cell? ⟨HQ, 1, none⟩ = some (.string y2b) := fun QQ => QQ.ok.2.2.2.2.2.2.2.1
              have q8 : ∀ QQ : Wd (fun Q => Q.cell? ⟨HP, 0, none⟩ = some (.int .i64 x1b) ∧ Q.cell? ⟨HP, 1, none⟩ = some (.string y1b) ∧ Q.cell? ⟨HP, 2, none⟩ = some (.string z1b) ∧ Q.cell? ⟨HC, 0, none⟩ = some (.int .i64 c) ∧ Q.cell? ⟨HC, 1, none⟩ = some (.string u) ∧ Q.cell? ⟨HC, 2, none⟩ = some (.string v) ∧ Q.cell? ⟨HQ, 0, none⟩ = some (.int .i64 x2b) ∧ Q.cell? ⟨HQ, 1, none⟩ = some (.string y2b) ∧ Q.cell? ⟨HQ, 2, none⟩ = some (.string z2b)), QQ.w.cell? ⟨HQ, 2, none⟩ = some (.string z2b) := fun QQ => QQ.ok.2.2.2.2.2.2.2.2
              have hne : Nonempty (Wd (fun Q => Q.cell? ⟨HP, 0, none⟩ = some (.int .i64 x1b) ∧ Q.cell? ⟨HP, 1, none⟩ = some (.string y1b) ∧ Q.cell? ⟨HP, 2, none⟩ = some (.string z1b) ∧ Q.cell? ⟨HC, 0, none⟩ = some (.int .i64 c) ∧ Q.cell? ⟨HC, 1, none⟩ = some (.string u) ∧ Q.cell? ⟨HC, 2, none⟩ = some (.string v) ∧ Q.cell? ⟨HQ, 0, none⟩ = some (.int .i64 x2b) ∧ Q.cell? ⟨HQ, 1, none⟩ = some (.string y2b) ∧ Q.cell? ⟨HQ, 2, none⟩ = some (.string z2b))) := ⟨⟨w_17, ⟨(Box.c S17.out.2.2.2.2.1).1, (Box.c S17.out.2.2.2.2.1).2.1, (Box.c S17.out.2.2.2.2.1).2.2, (Box.c S17.out.2.2.2.1).1, (Box.c S17.out.2.2.2.1).2.1, (Box.c S17.out.2.2.2.1).2.2, (Box.c S17.out.2.2.2.2.2.1).1, (Box.c S17.out.2.2.2.2.2.1).2.1, (Box.c S17.out.2.2.2.2.2.1).2.2⟩⟩⟩
              refine tree (S := (fun Q => Q.cell? ⟨HP, 0, none⟩ = some (.int .i64 x1b) ∧ Q.cell? ⟨HP, 1, none⟩ = some (.string y1b) ∧ Q.cell? ⟨HP, 2, none⟩ = some (.string z1b) ∧ Q.cell? ⟨HC, 0, none⟩ = some (.int .i64 c) ∧ Q.cell? ⟨HC, 1, none⟩ = some (.string u) ∧ Q.cell? ⟨HC, 2, none⟩ = some (.string v) ∧ Q.cell? ⟨HQ, 0, none⟩ = some (.int .i64 x2b) ∧ Q.cell? ⟨HQ, 1, none⟩ = some (.string y2b) ∧ Q.cell? ⟨HQ, 2, none⟩ = some (.string z2b))) (Tr.two [true, true, true, true, true, true, true, true, true, false, true, false, true, true, false, true, false, true] 9 (Tr.two [] 11 (Tr.one [] 14 (Tr.one [] 16 (Tr.one [] 18 (Tr.leaf [false, false, false, false, false, false, false, false, false, false, false, false, false, false, false, false, false, false, false, true, true])))) 14 (Tr.one [] 11 (Tr.one [] 16 (Tr.one [] 18 (Tr.leaf [false, false, false, false, false, false, false, false, false, false, false, false, false, false, false, false, false, false, false, true, true]))))) 14 (Tr.one [] 9 (Tr.one [] 11 (Tr.one [] 16 (Tr.one [] 18 (Tr.leaf [false, false, false, false, false, false, false, false, false, false, false, false, false, false, false, false, false, false, false, true, true])))))) (by kernel_rfl) (by kernel_rfl) (by kernel_rfl) ⟨(Box.c S17.out.2.2.2.2.1).1, (Box.c S17.out.2.2.2.2.1).2.1, (Box.c S17.out.2.2.2.2.1).2.2, (Box.c S17.out.2.2.2.1).1, (Box.c S17.out.2.2.2.1).2.1, (Box.c S17.out.2.2.2.1).2.2, (Box.c S17.out.2.2.2.2.2.1).1, (Box.c S17.out.2.2.2.2.2.1).2.1, (Box.c S17.out.2.2.2.2.2.1).2.2⟩ ?_
              simp only [wpTr, pickB, List.toList_toArray, List.getElem?_toArray, List.getElem?_cons_succ, List.getElem?_cons_zero, Option.toList_some]
              have S18 : Hid (Below w.heap.size w w_17.drew ∧ Box 24 w_17.drew HA n s r ∧ Box 24 w_17.drew HB m t q ∧ Box 24 w_17.drew HC c u v ∧ Box 24 w_17.drew HP x1b y1b z1b ∧ Box 24 w_17.drew HQ x2b y2b z2b ∧ RU C9 w_17.drew va la ∧ RU C9 w_17.drew vb lb) := ⟨S17.out.1.drew, Box.drew S17.out.2.1, Box.drew S17.out.2.2.1, Box.drew S17.out.2.2.2.1, Box.drew S17.out.2.2.2.2.1, Box.drew S17.out.2.2.2.2.2.1, S17.out.2.2.2.2.2.2.1.drew, S17.out.2.2.2.2.2.2.2.drew⟩
              clear S17
              repeat (go_big_quiet_step (fail))
              refine wpQuiet_nil ?_
              constructor
              · intro K hK
                go_wp2_with fail
                obtain ⟨w_19, hw_19⟩ : ∃ QZ, QZ = (w_17.alloc (.cells #[] 3)).drew := ⟨_, rfl⟩
                obtain ⟨E1, hE1⟩ : ∃ QZ, QZ = w_17.heap.size := ⟨_, rfl⟩
                have hb : Below w_17.heap.size w_17.drew w_19 := by rw [hw_19]; exact Below.trans (b := w_17) ⟨rfl, rfl, rfl, Nat.le_refl _, fun _ _ => rfl⟩ ((Below.refl w_17.heap.size w_17).alloc (Nat.le_refl _) _).drew
                have S19 : Hid (Below w.heap.size w w_19 ∧ Box 24 w_19 HA n s r ∧ Box 24 w_19 HB m t q ∧ Box 24 w_19 HC c u v ∧ Box 24 w_19 HP x1b y1b z1b ∧ Box 24 w_19 HQ x2b y2b z2b ∧ RU C9 w_19 va la ∧ RU C9 w_19 vb lb) := ⟨S18.out.1.trans (hb.mono S18.out.1.size), S18.out.2.1.below hb S18.out.2.1.lt, S18.out.2.2.1.below hb S18.out.2.2.1.lt, S18.out.2.2.2.1.below hb S18.out.2.2.2.1.lt, S18.out.2.2.2.2.1.below hb S18.out.2.2.2.2.1.lt, S18.out.2.2.2.2.2.1.below hb S18.out.2.2.2.2.2.1.lt, S18.out.2.2.2.2.2.2.1.below hb, S18.out.2.2.2.2.2.2.2.below hb⟩
                clear hb S18
                rw [← hw_19, ← hE1]
                clear hw_19 hE1
                refine hK _ _ ⟨(Box.c S19.out.2.2.2.2.1).1, (Box.c S19.out.2.2.2.2.1).2.1, (Box.c S19.out.2.2.2.2.1).2.2, (Box.c S19.out.2.2.2.1).1, (Box.c S19.out.2.2.2.1).2.1, (Box.c S19.out.2.2.2.1).2.2, (Box.c S19.out.2.2.2.2.2.1).1, (Box.c S19.out.2.2.2.2.2.1).2.1, (Box.c S19.out.2.2.2.2.2.1).2.2⟩ ?_
                clear hK K
                repeat (go_big_quiet_step (fail))
                refine wpQuiet_nil ?_
                constructor
                · intro K hK
                  go_wp2_with fail
                  refine (join_at (k := E1) hla _ S19.out.2.2.2.2.2.2.1).mono ?_
                  rintro e w_20 ⟨vj1, rfl, ho1, hb⟩
                  have HO1 := Lib.hid (ru_own ho1)
                  clear ho1
                  have S20 : Hid (Below w.heap.size w w_20 ∧ Box 24 w_20 HA n s r ∧ Box 24 w_20 HB m t q ∧ Box 24 w_20 HC c u v ∧ Box 24 w_20 HP x1b y1b z1b ∧ Box 24 w_20 HQ x2b y2b z2b ∧ RU C9 w_20 va la ∧ RU C9 w_20 vb lb) := ⟨S19.out.1.trans (hb.mono S19.out.1.size), S19.out.2.1.below hb S19.out.2.1.lt, S19.out.2.2.1.below hb S19.out.2.2.1.lt, S19.out.2.2.2.1.below hb S19.out.2.2.2.1.lt, S19.out.2.2.2.2.1.below hb S19.out.2.2.2.2.1.lt, S19.out.2.2.2.2.2.1.below hb S19.out.2.2.2.2.2.1.lt, S19.out.2.2.2.2.2.2.1.below hb, S19.out.2.2.2.2.2.2.2.below hb⟩
                  clear hb S19
                  go_wp2_with fail
                  refine hK _ _ ⟨(Box.c S20.out.2.2.2.2.1).1, (Box.c S20.out.2.2.2.2.1).2.1, (Box.c S20.out.2.2.2.2.1).2.2, (Box.c S20.out.2.2.2.1).1, (Box.c S20.out.2.2.2.1).2.1, (Box.c S20.out.2.2.2.1).2.2, (Box.c S20.out.2.2.2.2.2.1).1, (Box.c S20.out.2.2.2.2.2.1).2.1, (Box.c S20.out.2.2.2.2.2.1).2.2⟩ ?_
                  clear hK K
                  repeat (go_big_quiet_step (fail))
                  refine wpQuiet_nil ?_
                  intro K hK
                  go_wp2_with fail
                  obtain ⟨w_21, hw_21⟩ : ∃ QZ, QZ = w_20.alloc (.cells #[] 3) := ⟨_, rfl⟩
                  obtain ⟨E2, hE2⟩ : ∃ QZ, QZ = w_20.heap.size := ⟨_, rfl⟩
                  have hb : Below w_20.heap.size w_20 w_21 := by rw [hw_21]; exact (Below.refl _ _).alloc (Nat.le_refl _) _
                  have HO1b := Lib.hid (HO1.out.below hb)
                  clear HO1
                  have HO1 := HO1b
                  clear HO1b
                  have S21 : Hid (Below w.heap.size w w_21 ∧ Box 24 w_21 HA n s r ∧ Box 24 w_21 HB m t q ∧ Box 24 w_21 HC c u v ∧ Box 24 w_21 HP x1b y1b z1b ∧ Box 24 w_21 HQ x2b y2b z2b ∧ RU C9 w_21 va la ∧ RU C9 w_21 vb lb) := ⟨S20.out.1.trans (hb.mono S20.out.1.size), S20.out.2.1.below hb S20.out.2.1.lt, S20.out.2.2.1.below hb S20.out.2.2.1.lt, S20.out.2.2.2.1.below hb S20.out.2.2.2.1.lt, S20.out.2.2.2.2.1.below hb S20.out.2.2.2.2.1.lt, S20.out.2.2.2.2.2.1.below hb S20.out.2.2.2.2.2.1.lt, S20.out.2.2.2.2.2.2.1.below hb, S20.out.2.2.2.2.2.2.2.below hb⟩
                  clear hb S20
                  rw [← hw_21, ← hE2]
                  clear hw_21 hE2
                  refine hK _ _ ⟨(Box.c S21.out.2.2.2.2.1).1, (Box.c S21.out.2.2.2.2.1).2.1, (Box.c S21.out.2.2.2.2.1).2.2, (Box.c S21.out.2.2.2.1).1, (Box.c S21.out.2.2.2.1).2.1, (Box.c S21.out.2.2.2.1).2.2, (Box.c S21.out.2.2.2.2.2.1).1, (Box.c S21.out.2.2.2.2.2.1).2.1, (Box.c S21.out.2.2.2.2.2.1).2.2⟩ ?_
                  clear hK K
                  repeat (go_big_quiet_step (fail))
                  refine wpQuiet_nil ?_
                  intro K hK
                  go_wp2_with fail
                  refine (join_at (k := E2) hlb _ S21.out.2.2.2.2.2.2.2).mono ?_
                  rintro e w_22 ⟨vj2, rfl, ho2, hb⟩
                  have HO2 := Lib.hid (ru_own ho2)
                  clear ho2
                  have HO1x := Lib.hid (HO1.out.below hb)
                  clear HO1
                  have S22 : Hid (Below w.heap.size w w_22 ∧ Box 24 w_22 HA n s r ∧ Box 24 w_22 HB m t q ∧ Box 24 w_22 HC c u v ∧ Box 24 w_22 HP x1b y1b z1b ∧ Box 24 w_22 HQ x2b y2b z2b ∧ RU C9 w_22 va la ∧ RU C9 w_22 vb lb) := ⟨S21.out.1.trans (hb.mono S21.out.1.size), S21.out.2.1.below hb S21.out.2.1.lt, S21.out.2.2.1.below hb S21.out.2.2.1.lt, S21.out.2.2.2.1.below hb S21.out.2.2.2.1.lt, S21.out.2.2.2.2.1.below hb S21.out.2.2.2.2.1.lt, S21.out.2.2.2.2.2.1.below hb S21.out.2.2.2.2.2.1.lt, S21.out.2.2.2.2.2.2.1.below hb, S21.out.2.2.2.2.2.2.2.below hb⟩
                  clear hb S21
                  go_wp2_with fail
                  refine hK _ _ ⟨(Box.c S22.out.2.2.2.2.1).1, (Box.c S22.out.2.2.2.2.1).2.1, (Box.c S22.out.2.2.2.2.1).2.2, (Box.c S22.out.2.2.2.1).1, (Box.c S22.out.2.2.2.1).2.1, (Box.c S22.out.2.2.2.1).2.2, (Box.c S22.out.2.2.2.2.2.1).1, (Box.c S22.out.2.2.2.2.2.1).2.1, (Box.c S22.out.2.2.2.2.2.1).2.2⟩ ?_
                  clear hK K
                  repeat (go_big_quiet_step (fail))
                  refine wpQuiet_nil ?_
                  intro K hK
                  go_wp2_with fail
                  refine (HR.out _ _ _ _ _ HO1x.out HO2.out).mono ?_
                  rintro e w_23 ⟨rfl, hb⟩
                  have S23 : Hid (Below w.heap.size w w_23 ∧ Box 24 w_23 HA n s r ∧ Box 24 w_23 HB m t q ∧ Box 24 w_23 HC c u v ∧ Box 24 w_23 HP x1b y1b z1b ∧ Box 24 w_23 HQ x2b y2b z2b ∧ RU C9 w_23 va la ∧ RU C9 w_23 vb lb) := ⟨S22.out.1.trans (hb.mono S22.out.1.size), S22.out.2.1.below hb S22.out.2.1.lt, S22.out.2.2.1.below hb S22.out.2.2.1.lt, S22.out.2.2.2.1.below hb S22.out.2.2.2.1.lt, S22.out.2.2.2.2.1.below hb S22.out.2.2.2.2.1.lt, S22.out.2.2.2.2.2.1.below hb S22.out.2.2.2.2.2.1.lt, S22.out.2.2.2.2.2.2.1.below hb, S22.out.2.2.2.2.2.2.2.below hb⟩
                  clear hb S22
                  go_wp2_with fail
                  refine hK _ _ ⟨(Box.c S23.out.2.2.2.2.1).1, (Box.c S23.out.2.2.2.2.1).2.1, (Box.c S23.out.2.2.2.2.1).2.2, (Box.c S23.out.2.2.2.1).1, (Box.c S23.out.2.2.2.1).2.1, (Box.c S23.out.2.2.2.1).2.2, (Box.c S23.out.2.2.2.2.2.1).1, (Box.c S23.out.2.2.2.2.2.1).2.1, (Box.c S23.out.2.2.2.2.2.1).2.2⟩ ?_
                  clear hK K
                  repeat (go_big_quiet_step (fail))
                  refine wpQuiet_nil ?_
                  clear q0 q1 q2 q3 q4 q5 q6 q7 q8 hne
                  go_wp2
                  go_ret
                  exact ⟨rfl, S23.out.1⟩
                · intro K hK
                  go_wp2_with fail
                  obtain ⟨w_20, hw_20⟩ : ∃ QZ, QZ = w_19.alloc (.cells #[] 3) := ⟨_, rfl⟩
                  obtain ⟨E2, hE2⟩ : ∃ QZ, QZ = w_19.heap.size := ⟨_, rfl⟩
                  have hb : Below w_19.heap.size w_19 w_20 := by rw [hw_20]; exact (Below.refl _ _).alloc (Nat.le_refl _) _
                  have S20 : Hid (Below w.heap.size w w_20 ∧ Box 24 w_20 HA n s r ∧ Box 24 w_20 HB m t q ∧ Box 24 w_20 HC c u v ∧ Box 24 w_20 HP x1b y1b z1b ∧ Box 24 w_20 HQ x2b y2b z2b ∧ RU C9 w_20 va la ∧ RU C9 w_20 vb lb) := ⟨S19.out.1.trans (hb.mono S19.out.1.size), S19.out.2.1.below hb S19.out.2.1.lt, S19.out.2.2.1.below hb S19.out.2.2.1.lt, S19.out.2.2.2.1.below hb S19.out.2.2.2.1.lt, S19.out.2.2.2.2.1.below hb S19.out.2.2.2.2.1.lt, S19.out.2.2.2.2.2.1.below hb S19.out.2.2.2.2.2.1.lt, S19.out.2.2.2.2.2.2.1.below hb, S19.out.2.2.2.2.2.2.2.below hb⟩
                  clear hb S19
                  rw [← hw_20, ← hE2]
                  clear hw_20 hE2
                  refine hK _ _ ⟨(Box.c S20.out.2.2.2.2.1).1, (Box.c S20.out.2.2.2.2.1).2.1, (Box.c S20.out.2.2.2.2.1).2.2, (Box.c S20.out.2.2.2.1).1, (Box.c S20.out.2.2.2.1).2.1, (Box.c S20.out.2.2.2.1).2.2, (Box.c S20.out.2.2.2.2.2.1).1, (Box.c S20.out.2.2.2.2.2.1).2.1, (Box.c S20.out.2.2.2.2.2.1).2.2⟩ ?_
                  clear hK K
                  repeat (go_big_quiet_step (fail))
                  refine wpQuiet_nil ?_
                  intro K hK
                  go_wp2_with fail
                  refine (join_at (k := E1) hla _ S20.out.2.2.2.2.2.2.1).mono ?_
                  rintro e w_21 ⟨vj1, rfl, ho1, hb⟩
                  have HO1 := Lib.hid (ru_own ho1)
                  clear ho1
                  have S21 : Hid (Below w.heap.size w w_21 ∧ Box 24 w_21 HA n s r ∧ Box 24 w_21 HB m t q ∧ Box 24 w_21 HC c u v ∧ Box 24 w_21 HP x1b y1b z1b ∧ Box 24 w_21 HQ x2b y2b z2b ∧ RU C9 w_21 va la ∧ RU C9 w_21 vb lb) := ⟨S20.out.1.trans (hb.mono S20.out.1.size), S20.out.2.1.below hb S20.out.2.1.lt, S20.out.2.2.1.below hb S20.out.2.2.1.lt, S20.out.2.2.2.1.below hb S20.out.2.2.2.1.lt, S20.out.2.2.2.2.1.below hb S20.out.2.2.2.2.1.lt, S20.out.2.2.2.2.2.1.below hb S20.out.2.2.2.2.2.1.lt, S20.out.2.2.2.2.2.2.1.below hb, S20.out.2.2.2.2.2.2.2.below hb⟩
                  clear hb S20
                  go_wp2_with fail
                  refine hK _ _ ⟨(Box.c S21.out.2.2.2.2.1).1, (Box.c S21.out.2.2.2.2.1).2.1, (Box.c S21.out.2.2.2.2.1).2.2, (Box.c S21.out.2.2.2.1).1, (Box.c S21.out.2.2.2.1).2.1, (Box.c S21.out.2.2.2.1).2.2, (Box.c S21.out.2.2.2.2.2.1).1, (Box.c S21.out.2.2.2.2.2.1).2.1, (Box.c S21.out.2.2.2.2.2.1).2.2⟩ ?_
                  clear hK K
                  repeat (go_big_quiet_step (fail))
                  refine wpQuiet_nil ?_
                  intro K hK
                  go_wp2_with fail
                  refine (join_at (k := E2) hlb _ S21.out.2.2.2.2.2.2.2).mono ?_
                  rintro e w_22 ⟨vj2, rfl, ho2, hb⟩
                  have HO2 := Lib.hid (ru_own ho2)
                  clear ho2
                  have HO1x := Lib.hid (HO1.out.below hb)
                  clear HO1
                  have S22 : Hid (Below w.heap.size w w_22 ∧ Box 24 w_22 HA n s r ∧ Box 24 w_22 HB m t q ∧ Box 24 w_22 HC c u v ∧ Box 24 w_22 HP x1b y1b z1b ∧ Box 24 w_22 HQ x2b y2b z2b ∧ RU C9 w_22 va la ∧ RU C9 w_22 vb lb) := ⟨S21.out.1.trans (hb.mono S21.out.1.size), S21.out.2.1.below hb S21.out.2.1.lt, S21.out.2.2.1.below hb S21.out.2.2.1.lt, S21.out.2.2.2.1.below hb S21.out.2.2.2.1.lt, S21.out.2.2.2.2.1.below hb S21.out.2.2.2.2.1.lt, S21.out.2.2.2.2.2.1.below hb S21.out.2.2.2.2.2.1.lt, S21.out.2.2.2.2.2.2.1.below hb, S21.out.2.2.2.2.2.2.2.below hb⟩
                  clear hb S21
                  go_wp2_with fail
                  refine hK _ _ ⟨(Box.c S22.out.2.2.2.2.1).1, (Box.c S22.out.2.2.2.2.1).2.1, (Box.c S22.out.2.2.2.2.1).2.2, (Box.c S22.out.2.2.2.1).1, (Box.c S22.out.2.2.2.1).2.1, (Box.c S22.out.2.2.2.1).2.2, (Box.c S22.out.2.2.2.2.2.1).1, (Box.c S22.out.2.2.2.2.2.1).2.1, (Box.c S22.out.2.2.2.2.2.1).2.2⟩ ?_
                  clear hK K
                  repeat (go_big_quiet_step (fail))
                  refine wpQuiet_nil ?_
                  intro K hK
                  go_wp2_with fail
                  refine (HR.out _ _ _ _ _ HO1x.out HO2.out).mono ?_
                  rintro e w_23 ⟨rfl, hb⟩
                  have S23 : Hid (Below w.heap.size w w_23 ∧ Box 24 w_23 HA n s r ∧ Box 24 w_23 HB m t q ∧ Box 24 w_23 HC c u v ∧ Box 24 w_23 HP x1b y1b z1b ∧ Box 24 w_23 HQ x2b y2b z2b ∧ RU C9 w_23 va la ∧ RU C9 w_23 vb lb) := ⟨S22.out.1.trans (hb.mono S22.out.1.size), S22.out.2.1.below hb S22.out.2.1.lt, S22.out.2.2.1.below hb S22.out.2.2.1.lt, S22.out.2.2.2.1.below hb S22.out.2.2.2.1.lt, S22.out.2.2.2.2.1.below hb S22.out.2.2.2.2.1.lt, S22.out.2.2.2.2.2.1.below hb S22.out.2.2.2.2.2.1.lt, S22.out.2.2.2.2.2.2.1.below hb, S22.out.2.2.2.2.2.2.2.below hb⟩
                  clear hb S22
                  go_wp2_with fail
                  refine hK _ _ ⟨(Box.c S23.out.2.2.2.2.1).1, (Box.c S23.out.2.2.2.2.1).2.1, (Box.c S23.out.2.2.2.2.1).2.2, (Box.c S23.out.2.2.2.1).1, (Box.c S23.out.2.2.2.1).2.1, (Box.c S23.out.2.2.2.1).2.2, (Box.c S23.out.2.2.2.2.2.1).1, (Box.c S23.out.2.2.2.2.2.1).2.1, (Box.c S23.out.2.2.2.2.2.1).2.2⟩ ?_
                  clear hK K
                  repeat (go_big_quiet_step (fail))
                  refine wpQuiet_nil ?_
                  clear q0 q1 q2 q3 q4 q5 q6 q7 q8 hne
                  go_wp2
                  go_ret
                  exact ⟨rfl, S23.out.1⟩
              · intro K hK
                go_wp2_with fail
                obtain ⟨w_19, hw_19⟩ : ∃ QZ, QZ = (w_17.alloc (.cells #[] 3)).drew := ⟨_, rfl⟩
                obtain ⟨E2, hE2⟩ : ∃ QZ, QZ = w_17.heap.size := ⟨_, rfl⟩
                have hb : Below w_17.heap.size w_17.drew w_19 := by rw [hw_19]; exact Below.trans (b := w_17) ⟨rfl, rfl, rfl, Nat.le_refl _, fun _ _ => rfl⟩ ((Below.refl w_17.heap.size w_17).alloc (Nat.le_refl _) _).drew
                have S19 : Hid (Below w.heap.size w w_19 ∧ Box 24 w_19 HA n s r ∧ Box 24 w_19 HB m t q ∧ Box 24 w_19 HC c u v ∧ Box 24 w_19 HP x1b y1b z1b ∧ Box 24 w_19 HQ x2b y2b z2b ∧ RU C9 w_19 va la ∧ RU C9 w_19 vb lb) := ⟨S18.out.1.trans (hb.mono S18.out.1.size), S18.out.2.1.below hb S18.out.2.1.lt, S18.out.2.2.1.below hb S18.out.2.2.1.lt, S18.out.2.2.2.1.below hb S18.out.2.2.2.1.lt, S18.out.2.2.2.2.1.below hb S18.out.2.2.2.2.1.lt, S18.out.2.2.2.2.2.1.below hb S18.out.2.2.2.2.2.1.lt, S18.out.2.2.2.2.2.2.1.below hb, S18.out.2.2.2.2.2.2.2.below hb⟩
                clear hb S18
                rw [← hw_19, ← hE2]
                clear hw_19 hE2
                refine hK _ _ ⟨(Box.c S19.out.2.2.2.2.1).1, (Box.c S19.out.2.2.2.2.1).2.1, (Box.c S19.out.2.2.2.2.1).2.2, (Box.c S19.out.2.2.2.1).1, (Box.c S19.out.2.2.2.1).2.1, (Box.c S19.out.2.2.2.1).2.2, (Box.c S19.out.2.2.2.2.2.1).1, (Box.c S19.out.2.2.2.2.2.1).2.1, (Box.c S19.out.2.2.2.2.2.1).2.2⟩ ?_
                clear hK K
                repeat (go_big_quiet_step (fail))
                refine wpQuiet_nil ?_
                intro K hK
                go_wp2_with fail
                obtain ⟨w_20, hw_20⟩ : ∃ QZ, QZ = w_19.alloc (.cells #[] 3) := ⟨_, rfl⟩
                obtain ⟨E1, hE1⟩ : ∃ QZ, QZ = w_19.heap.size := ⟨_, rfl⟩
                have hb : Below w_19.heap.size w_19 w_20 := by rw [hw_20]; exact (Below.refl _ _).alloc (Nat.le_refl _) _
                have S20 : Hid (Below w.heap.size w w_20 ∧ Box 24 w_20 HA n s r ∧ Box 24 w_20 HB m t q ∧ Box 24 w_20 HC c u v ∧ Box 24 w_20 HP x1b y1b z1b ∧ Box 24 w_20 HQ x2b y2b z2b ∧ RU C9 w_20 va la ∧ RU C9 w_20 vb lb) := ⟨S19.out.1.trans (hb.mono S19.out.1.size), S19.out.2.1.below hb S19.out.2.1.lt, S19.out.2.2.1.below hb S19.out.2.2.1.lt, S19.out.2.2.2.1.below hb S19.out.2.2.2.1.lt, S19.out.2.2.2.2.1.below hb S19.out.2.2.2.2.1.lt, S19.out.2.2.2.2.2.1.below hb S19.out.2.2.2.2.2.1.lt, S19.out.2.2.2.2.2.2.1.below hb, S19.out.2.2.2.2.2.2.2.below hb⟩
                clear hb S19
                rw [← hw_20, ← hE1]
                clear hw_20 hE1
                refine hK _ _ ⟨(Box.c S20.out.2.2.2.2.1).1, (Box.c S20.out.2.2.2.2.1).2.1, (Box.c S20.out.2.2.2.2.1).2.2, (Box.c S20.out.2.2.2.1).1, (Box.c S20.out.2.2.2.1).2.1, (Box.c S20.out.2.2.2.1).2.2, (Box.c S20.out.2.2.2.2.2.1).1, (Box.c S20.out.2.2.2.2.2.1).2.1, (Box.c S20.out.2.2.2.2.2.1).2.2⟩ ?_
                clear hK K
                repeat (go_big_quiet_step (fail))
                refine wpQuiet_nil ?_
                intro K hK
                go_wp2_with fail
                refine (join_at (k := E1) hla _ S20.out.2.2.2.2.2.2.1).mono ?_
                rintro e w_21 ⟨vj1, rfl, ho1, hb⟩
                have HO1 := Lib.hid (ru_own ho1)
                clear ho1
                have S21 : Hid (Below w.heap.size w w_21 ∧ Box 24 w_21 HA n s r ∧ Box 24 w_21 HB m t q ∧ Box 24 w_21 HC c u v ∧ Box 24 w_21 HP x1b y1b z1b ∧ Box 24 w_21 HQ x2b y2b z2b ∧ RU C9 w_21 va la ∧ RU C9 w_21 vb lb) := ⟨S20.out.1.trans (hb.mono S20.out.1.size), S20.out.2.1.below hb S20.out.2.1.lt, S20.out.2.2.1.below hb S20.out.2.2.1.lt, S20.out.2.2.2.1.below hb S20.out.2.2.2.1.lt, S20.out.2.2.2.2.1.below hb S20.out.2.2.2.2.1.lt, S20.out.2.2.2.2.2.1.below hb S20.out.2.2.2.2.2.1.lt, S20.out.2.2.2.2.2.2.1.below hb, S20.out.2.2.2.2.2.2.2.below hb⟩
                clear hb S20
                go_wp2_with fail
                refine hK _ _ ⟨(Box.c S21.out.2.2.2.2.1).1, (Box.c S21.out.2.2.2.2.1).2.1, (Box.c S21.out.2.2.2.2.1).2.2, (Box.c S21.out.2.2.2.1).1, (Box.c S21.out.2.2.2.1).2.1, (Box.c S21.out.2.2.2.1).2.2, (Box.c S21.out.2.2.2.2.2.1).1, (Box.c S21.out.2.2.2.2.2.1).2.1, (Box.c S21.out.2.2.2.2.2.1).2.2⟩ ?_
                clear hK K
                repeat (go_big_quiet_step (fail))
                refine wpQuiet_nil ?_
                intro K hK
                go_wp2_with fail
                refine (join_at (k := E2) hlb _ S21.out.2.2.2.2.2.2.2).mono ?_
                rintro e w_22 ⟨vj2, rfl, ho2, hb⟩
                have HO2 := Lib.hid (ru_own ho2)
                clear ho2
                have HO1x := Lib.hid (HO1.out.below hb)
                clear HO1
                have S22 : Hid (Below w.heap.size w w_22 ∧ Box 24 w_22 HA n s r ∧ Box 24 w_22 HB m t q ∧ Box 24 w_22 HC c u v ∧ Box 24 w_22 HP x1b y1b z1b ∧ Box 24 w_22 HQ x2b y2b z2b ∧ RU C9 w_22 va la ∧ RU C9 w_22 vb lb) := ⟨S21.out.1.trans (hb.mono S21.out.1.size), S21.out.2.1.below hb S21.out.2.1.lt, S21.out.2.2.1.below hb S21.out.2.2.1.lt, S21.out.2.2.2.1.below hb S21.out.2.2.2.1.lt, S21.out.2.2.2.2.1.below hb S21.out.2.2.2.2.1.lt, S21.out.2.2.2.2.2.1.below hb S21.out.2.2.2.2.2.1.lt, S21.out.2.2.2.2.2.2.1.below hb, S21.out.2.2.2.2.2.2.2.below hb⟩
                clear hb S21
                go_wp2_with fail
                refine hK _ _ ⟨(Box.c S22.out.2.2.2.2.1).1, (Box.c S22.out.2.2.2.2.1).2.1, (Box.c S22.out.2.2.2.2.1).2.2, (Box.c S22.out.2.2.2.1).1, (Box.c S22.out.2.2.2.1).2.1, (Box.c S22.out.2.2.2.1).2.2, (Box.c S22.out.2.2.2.2.2.1).1, (Box.c S22.out.2.2.2.2.2.1).2.1, (Box.c S22.out.2.2.2.2.2.1).2.2⟩ ?_
                clear hK K
                repeat (go_big_quiet_step (fail))
                refine wpQuiet_nil ?_
                intro K hK
                go_wp2_with fail
                refine (HR.out _ _ _ _ _ HO1x.out HO2.out).mono ?_
                rintro e w_23 ⟨rfl, hb⟩
                have S23 : Hid (Below w.heap.size w w_23 ∧ Box 24 w_23 HA n s r ∧ Box 24 w_23 HB m t q ∧ Box 24 w_23 HC c u v ∧ Box 24 w_23 HP x1b y1b z1b ∧ Box 24 w_23 HQ x2b y2b z2b ∧ RU C9 w_23 va la ∧ RU C9 w_23 vb lb) := ⟨S22.out.1.trans (hb.mono S22.out.1.size), S22.out.2.1.below hb S22.out.2.1.lt, S22.out.2.2.1.below hb S22.out.2.2.1.lt, S22.out.2.2.2.1.below hb S22.out.2.2.2.1.lt, S22.out.2.2.2.2.1.below hb S22.out.2.2.2.2.1.lt, S22.out.2.2.2.2.2.1.below hb S22.out.2.2.2.2.2.1.lt, S22.out.2.2.2.2.2.2.1.below hb, S22.out.2.2.2.2.2.2.2.below hb⟩
                clear hb S22
                go_wp2_with fail
                refine hK _ _ ⟨(Box.c S23.out.2.2.2.2.1).1, (Box.c S23.out.2.2.2.2.1).2.1, (Box.c S23.out.2.2.2.2.1).2.2, (Box.c S23.out.2.2.2.1).1, (Box.c S23.out.2.2.2.1).2.1, (Box.c S23.out.2.2.2.1).2.2, (Box.c S23.out.2.2.2.2.2.1).1, (Box.c S23.out.2.2.2.2.2.1).2.1, (Box.c S23.out.2.2.2.2.2.1).2.2⟩ ?_
                clear hK K
                repeat (go_big_quiet_step (fail))
                refine wpQuiet_nil ?_
                clear q0 q1 q2 q3 q4 q5 q6 q7 q8 hne
                go_wp2
                go_ret
                exact ⟨rfl, S23.out.1⟩
end Go.Proofs.YtpcnoiigbmiejaaDoor.fnSumlW
