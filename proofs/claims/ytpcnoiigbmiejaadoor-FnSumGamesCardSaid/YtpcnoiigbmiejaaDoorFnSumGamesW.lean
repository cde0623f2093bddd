/- FnSumGames: the walk. -/
import Derived.Test.YtpcnoiigbmiejaaDoorDrawRk
import Derived.Test.YtpcnoiigbmiejaaDoorTypeA
import Derived.Test.YtpcnoiigbmiejaaDoorSgm
import Derived.Test.YtpcnoiigbmiejaaDoorInRel
import Derived.Test.YtpcnoiigbmiejaaDoorDrawG
import Derived.Test.YtpcnoiigbmiejaaDoorRow
namespace Go.Proofs.YtpcnoiigbmiejaaDoor.fnSumgW
set_option linter.unusedVariables false
set_option linter.unusedSimpArgs false
open Go.ChangeShapes Go.WideShapes Go.ChangeAt Go.RowKit
open Go.Proofs.YtpcnoiigbmiejaaDoor.flow Go.Proofs.YtpcnoiigbmiejaaDoor.lib Go.Proofs.YtpcnoiigbmiejaaDoor.st Go.Proofs.YtpcnoiigbmiejaaDoor.draw Go.Proofs.YtpcnoiigbmiejaaDoor.base Go.Proofs.YtpcnoiigbmiejaaDoor.gow Go.Proofs.YtpcnoiigbmiejaaDoor.gox Go.Proofs.YtpcnoiigbmiejaaDoor.still Go.Proofs.YtpcnoiigbmiejaaDoor.game Go.Proofs.YtpcnoiigbmiejaaDoor.pairL Go.Proofs.YtpcnoiigbmiejaaDoor.ispart Go.Proofs.YtpcnoiigbmiejaaDoor.gob Go.Proofs.YtpcnoiigbmiejaaDoor.tab Go.Proofs.YtpcnoiigbmiejaaDoor.sum Go.Proofs.YtpcnoiigbmiejaaDoor.prod Go.Proofs.YtpcnoiigbmiejaaDoor.assoc Go.Proofs.YtpcnoiigbmiejaaDoor.sgm Go.Proofs.YtpcnoiigbmiejaaDoor.drawrk Go.Proofs.YtpcnoiigbmiejaaDoor.inrel
/-- bytes that came in may be drawn from -/
theorem byt_of_row {w : World} {a : Option Addr} {n c : Nat} {zs : List Int} (h : row.IsRow .u8 w a n c zs) : Byt w w.heap.size a n ∧ n ≤ c ∧ c ≤ 9223372036854775807 := by
  rcases h with ⟨rfl, rfl, rfl, rfl⟩ | ⟨x, rfl, hl, hm, hz, hcell, hwf⟩
  · exact ⟨.inl rfl, Nat.le_refl _, by omega⟩
  · refine ⟨?_, hl, hm⟩
    by_cases h0 : n = 0
    · exact .inl h0
    · obtain ⟨b, off, spot⟩ := x
      have hc := hcell 0 (by omega)
      have hspot : spot = none := by simpa [Addr.add] using World.cell?_spot hc
      subst hspot
      have hlt := World.block_lt_of_cell? w _ hc
      refine .inr ⟨b, off, rfl, by simpa [Addr.add] using hlt, fun i hi => ?_⟩
      have hci := hcell i (by omega)
      have hw := hwf (zs.getD i 0) (by rw [List.getD_eq_getElem?_getD, List.getElem?_eq_getElem (by omega)]; exact List.getElem_mem _)
      have hb : 0 ≤ zs.getD i 0 ∧ zs.getD i 0 ≤ 255 := by
        generalize zs.getD i 0 = z at hw ⊢
        simp only [Lit.wf, IntKind.min, IntKind.max, IntKind.signed, IntKind.bits, Bool.and_eq_true, decide_eq_true_eq] at hw
        simp at hw
        omega
      refine ⟨(zs.getD i 0).toNat, by omega, ?_⟩
      rw [show (⟨b, off, none⟩ : Addr).add i = ⟨b, off + i, none⟩ from by simp only [Addr.add]; split <;> simp [*]] at hci
      rw [hci, show (((zs.getD i 0).toNat : Nat) : Int) = zs.getD i 0 from by omega]
theorem valid_small {n : Int} {s r : ByteArray} (h : validB n s r = true) : s.size ≤ 100 ∧ r.size ≤ 100 := by
  obtain ⟨N, rfl, h1, h8, hs, hr⟩ := prod.valid_size h
  have := Nat.mul_le_mul h8 h8
  omega
theorem swn_valid {n : Int} {s r : ByteArray} {m : Int} {t q : ByteArray} {x : Int} (h : swnB n s r [] m t q [] x = true) : validB n s r = true ∧ validB m t q = true := by
  obtain ⟨N, M, k, rfl, rfl, _, h1, h2, _⟩ := nil_form h
  exact ⟨h1, h2⟩
/-- SameRank of the program with a known answer -/
theorem rank_at {n : Int} {s r : ByteArray} {m : Int} {t q : ByteArray} {x : Int} (hs : s.size ≤ 100) (hr : r.size ≤ 100) (ht : t.size ≤ 100) (hq : q.size ≤ 100) (b : Bool) (hb : swnB n s r [] m t q [] x = b) (w : World) :
    Calls Tryd.prog 10 #[.agg #[.int .i64 n, .string s, .string r], .agg #[.int .i64 m, .string t, .string q], .int .i64 x] w fun e w' => e = .returned (.bool b) ∧ Below w.heap.size w w' := by
  rw [← hb]; exact implSameRank_any n s r m t q x w (by omega) (by omega) (by omega) (by omega)
theorem rank_spec {n : Int} {s r : ByteArray} {m : Int} {t q : ByteArray} {x : Int} (hs : s.size ≤ 100) (hr : r.size ≤ 100) (ht : t.size ≤ 100) (hq : q.size ≤ 100) (b : Bool) (hb : swnB n s r [] m t q [] x = b) (w : World) :
    Calls Tryd.prog 11 #[.agg #[.int .i64 n, .string s, .string r], .agg #[.int .i64 m, .string t, .string q], .int .i64 x] w fun e w' => e = .returned (.bool b) ∧ Below w.heap.size w w' := by
  rw [← hb]; exact specSameRank_any n s r m t q x w (by omega) (by omega) (by omega) (by omega)
theorem valid_at {n : Int} {s r : ByteArray} (hs : s.size ≤ 100) (hr : r.size ≤ 100) (b : Bool) (hb : validB n s r = b) (w : World) :
    Calls Tryd.prog 12 #[.agg #[.int .i64 n, .string s, .string r]] w fun e w' => e = .returned (.bool b) ∧ Below w.heap.size w w' := by
  rw [← hb]; exact implValid_any n s r w (by omega) (by omega)
/-- two sums or products, and what the game of them comes to -/
def Pair2 (F : FuncId) (n : Int) (s r : ByteArray) (m : Int) (t q : ByteArray) (c : Int) (u v : ByteArray) (d : Int) (y z : ByteArray) (x : Int) (is : Bool) : Prop :=
  ∃ (x1 : Int) (y1 z1 : ByteArray) (k1 : Bool) (x2 : Int) (y2 z2 : ByteArray) (k2 : Bool), SC F n s r c u v x1 y1 z1 k1 ∧ SC F m t q d y z x2 y2 z2 k2 ∧ (is = true → k1 = true → k2 = true → swnB x1 y1 z1 [] x2 y2 z2 [] x = true)
theorem sc_prod {n : Int} {s r : ByteArray} {m : Int} {t q : ByteArray} (hs : s.size ≤ 200) (hr : r.size ≤ 200) (ht : t.size ≤ 200) (hq : q.size ≤ 200) : SC 15 n s r m t q (pn n s r m t q) (ps n s r m t q) (pr n s r m t q) (okP n s r m t q) :=
  fun W => implProduct_any n s r m t q W (by omega) (by omega) (by omega) (by omega)
section
variable {n : Int} {s r : ByteArray} {m : Int} {t q : ByteArray} {c : Int} {u v : ByteArray} {d : Int} {y z : ByteArray} {x : Int} {is : Bool} (hi : swnB n s r [] m t q [] x = is) (hd : swnB c u v [] d y z [] x = true)
  (hs : s.size ≤ 100) (hr : r.size ≤ 100) (ht : t.size ≤ 100) (hq : q.size ≤ 100) (hu : u.size ≤ 100) (hv : v.size ≤ 100) (hy : y.size ≤ 100) (hz : z.size ≤ 100)
include hi hd hs hr ht hq hu hv hy hz
theorem pair_dis : Pair2 13 n s r m t q c u v d y z x is :=
  ⟨_, _, _, _, _, _, _, _, sc_dis (by omega) (by omega) (by omega) (by omega), sc_dis (by omega) (by omega) (by omega) (by omega), fun e k1 k2 => sum_wins false (by rw [hi, e]) hd k1 k2⟩
theorem pair_ord : Pair2 14 n s r m t q c u v d y z x is :=
  ⟨_, _, _, _, _, _, _, _, sc_ord (by omega) (by omega) (by omega) (by omega), sc_ord (by omega) (by omega) (by omega) (by omega), fun e k1 k2 => sum_wins true (by rw [hi, e]) hd k1 k2⟩
theorem pair_prod : Pair2 15 n s r m t q c u v d y z x is :=
  ⟨_, _, _, _, _, _, _, _, sc_prod (by omega) (by omega) (by omega) (by omega), sc_prod (by omega) (by omega) (by omega) (by omega), fun e k1 k2 => prod_wins (by rw [hi, e]) hd k1 k2⟩
end
theorem low {x : Int} (h : -1 ≤ x ∧ x ≤ 4) : x < 0 ∨ 2 < x ∨ (0 ≤ x ∧ x ≤ 2) := by omega

set_option maxHeartbeats 40000000 in
set_option maxRecDepth 100000 in
theorem walk (a0 : Option Addr) (n0 c0 : Nat) (l0 : List Int) (a1 : Option Addr) (n1 c1 : Nat) (l1 : List Int) (w : World) (h0 : row.IsRow .u8 w a0 n0 c0 l0) (h1 : row.IsRow .u8 w a1 n1 c1 l1) :
    Calls Tryd.prog 3 #[.slice a0 n0 c0, .slice a1 n1 c1] w fun e w' => e = .returned (.bool true) ∧ Below w.heap.size w w' := by
  obtain ⟨by0, nc0, cm0⟩ := byt_of_row h0
  have BY0 := Lib.hid by0
  clear by0
  obtain ⟨by1, nc1, cm1⟩ := byt_of_row h1
  have BY1 := Lib.hid by1
  clear by1
  clear h0 h1
  by_cases hg0 : 1048576 < n0
  · go_enter Tryd.func3, Tryd.ntmps3
    go_wp2
    go_ret
    exact ⟨rfl, Below.refl _ _⟩
  by_cases hg1 : 1048576 < n1
  · go_enter Tryd.func3, Tryd.ntmps3
    go_wp2
    go_ret
    exact ⟨rfl, Below.refl _ _⟩
  go_enter Tryd.func3, Tryd.ntmps3
  have S0 : Hid (Below w.heap.size w w) := Below.refl _ _
  go_wp2_with fail
  refine (drawSameRank_any a0 n0 c0 _ BY0.out nc0 cm0).mono ?_
  rintro e w_1 ⟨n, s, r, m, t, q, x, rfl, hnw, hs, hr, hmw, ht, hq, hx, hb⟩
  have S1 : Hid (Below w.heap.size w w_1) := S0.out.trans (hb.mono S0.out.size)
  clear hb S0
  clear hnw hmw
  obtain ⟨w_2, hw_2⟩ : ∃ QZ, QZ = ((w_1.alloc (.cells #[.int .i64 n, .string s, .string r] 24)).alloc (.cells #[.int .i64 m, .string t, .string q] 24)) := ⟨_, rfl⟩
  obtain ⟨HA, hHA⟩ : ∃ QZ, QZ = w_1.heap.size := ⟨_, rfl⟩
  have zHA : w.heap.size ≤ HA := by rw [hHA]; exact S1.out.size
  obtain ⟨HB, hHB⟩ : ∃ QZ, QZ = HA + 1 := ⟨_, rfl⟩
  have lHB : HA < HB := by omega
  have zHB : w.heap.size ≤ HB := by omega
  have S2 : Hid (Below w.heap.size w w_2 ∧ Box 24 w_2 HA n s r ∧ Box 24 w_2 HB m t q) := by rw [hw_2]; exact ⟨((S1.out).alloc (S1.out.size) _).alloc (by have := S1.out.size; simp only [World.size_alloc]; omega) _, ((Box.new 24 w_1 HA (by first | (rw [hHA]; done) | (rw [hHA]; simp)) n s r).below ((Below.refl _ _).alloc (Nat.le_refl _) _) (Box.new 24 w_1 HA (by first | (rw [hHA]; done) | (rw [hHA]; simp)) n s r).lt), (Box.new 24 (w_1.alloc (.cells #[.int .i64 n, .string s, .string r] 24)) HB (by first | (rw [hHB, hHA]; done) | (rw [hHB, hHA]; simp)) m t q)⟩
  clear S1
  obtain ⟨is, his⟩ : ∃ is, is = swnB n s r [] m t q [] x := ⟨_, rfl⟩
  have HIS := Lib.hid his.symm
  clear his
  have HRA := Lib.hid (fun W => rank_at hs hr ht hq is HIS.out W)
  have HRS := Lib.hid (fun W => rank_spec hs hr ht hq is HIS.out W)
  go_upto_region 4 with (fail)
  rw [← hw_2]
  rw [← hHA]
  rw [← hHB]
  clear hw_2 hHA hHB
  obtain ⟨k0_0, k0_1, k0_2⟩ := Box.c S2.out.2.1
  obtain ⟨k1_0, k1_1, k1_2⟩ := Box.c S2.out.2.2
  go_wp2_with fail
  clear k0_0 k0_1 k0_2 k1_0 k1_1 k1_2
  refine (HRA.out _).mono ?_
  rintro e w_3 ⟨rfl, hb⟩
  have S3 : Hid (Below w.heap.size w w_3 ∧ Box 24 w_3 HA n s r ∧ Box 24 w_3 HB m t q) := ⟨S2.out.1.trans (hb.mono S2.out.1.size), S2.out.2.1.below hb S2.out.2.1.lt, S2.out.2.2.below hb S2.out.2.2.lt⟩
  clear hb S2
  obtain ⟨k0_0, k0_1, k0_2⟩ := Box.c S3.out.2.1
  obtain ⟨k1_0, k1_1, k1_2⟩ := Box.c S3.out.2.2
  go_wp2_with fail
  clear k0_0 k0_1 k0_2 k1_0 k1_1 k1_2
  refine (HRS.out _).mono ?_
  rintro e w_4 ⟨rfl, hb⟩
  have S4 : Hid (Below w.heap.size w w_4 ∧ Box 24 w_4 HA n s r ∧ Box 24 w_4 HB m t q) := ⟨S3.out.1.trans (hb.mono S3.out.1.size), S3.out.2.1.below hb S3.out.2.1.lt, S3.out.2.2.below hb S3.out.2.2.lt⟩
  clear hb S3
  rcases low hx with hx0 | hx2 | hx3
  · have t1 : decide (x < 0) = true := decide_eq_true hx0
    cases is
    · obtain ⟨k0_0, k0_1, k0_2⟩ := Box.c S4.out.2.1
      obtain ⟨k1_0, k1_1, k1_2⟩ := Box.c S4.out.2.2
      go_wp2_with fail
      clear k0_0 k0_1 k0_2 k1_0 k1_1 k1_2
      refine (HRS.out _).mono ?_
      rintro e w_5 ⟨rfl, hb⟩
      have S5 : Hid (Below w.heap.size w w_5 ∧ Box 24 w_5 HA n s r ∧ Box 24 w_5 HB m t q) := ⟨S4.out.1.trans (hb.mono S4.out.1.size), S4.out.2.1.below hb S4.out.2.1.lt, S4.out.2.2.below hb S4.out.2.2.lt⟩
      clear hb S4
      go_wp2
      go_ret
      exact ⟨by simp, S5.out.1⟩
    · obtain ⟨k0_0, k0_1, k0_2⟩ := Box.c S4.out.2.1
      obtain ⟨k1_0, k1_1, k1_2⟩ := Box.c S4.out.2.2
      go_wp2_with fail
      clear k0_0 k0_1 k0_2 k1_0 k1_1 k1_2
      refine (HRS.out _).mono ?_
      rintro e w_5 ⟨rfl, hb⟩
      have S5 : Hid (Below w.heap.size w w_5 ∧ Box 24 w_5 HA n s r ∧ Box 24 w_5 HB m t q) := ⟨S4.out.1.trans (hb.mono S4.out.1.size), S4.out.2.1.below hb S4.out.2.1.lt, S4.out.2.2.below hb S4.out.2.2.lt⟩
      clear hb S4
      go_wp2
      go_ret
      exact ⟨by simp, S5.out.1⟩
  · have t1 : decide (x < 0) = false := decide_eq_false (by omega)
    have t2 : decide (2 < x) = true := decide_eq_true hx2
    cases is
    · obtain ⟨k0_0, k0_1, k0_2⟩ := Box.c S4.out.2.1
      obtain ⟨k1_0, k1_1, k1_2⟩ := Box.c S4.out.2.2
      go_wp2_with fail
      clear k0_0 k0_1 k0_2 k1_0 k1_1 k1_2
      refine (HRS.out _).mono ?_
      rintro e w_5 ⟨rfl, hb⟩
      have S5 : Hid (Below w.heap.size w w_5 ∧ Box 24 w_5 HA n s r ∧ Box 24 w_5 HB m t q) := ⟨S4.out.1.trans (hb.mono S4.out.1.size), S4.out.2.1.below hb S4.out.2.1.lt, S4.out.2.2.below hb S4.out.2.2.lt⟩
      clear hb S4
      go_wp2
      go_ret
      exact ⟨by simp, S5.out.1⟩
    · obtain ⟨k0_0, k0_1, k0_2⟩ := Box.c S4.out.2.1
      obtain ⟨k1_0, k1_1, k1_2⟩ := Box.c S4.out.2.2
      go_wp2_with fail
      clear k0_0 k0_1 k0_2 k1_0 k1_1 k1_2
      refine (HRS.out _).mono ?_
      rintro e w_5 ⟨rfl, hb⟩
      have S5 : Hid (Below w.heap.size w w_5 ∧ Box 24 w_5 HA n s r ∧ Box 24 w_5 HB m t q) := ⟨S4.out.1.trans (hb.mono S4.out.1.size), S4.out.2.1.below hb S4.out.2.1.lt, S4.out.2.2.below hb S4.out.2.2.lt⟩
      clear hb S4
      go_wp2
      go_ret
      exact ⟨by simp, S5.out.1⟩
  · have t1 : decide (x < 0) = false := decide_eq_false (by omega)
    have t2 : decide (2 < x) = false := decide_eq_false (by omega)
    cases hva : validB n s r with
    | false =>
      have HVA := Lib.hid (fun W => valid_at (n := n) hs hr false hva W)
      clear hva
      cases is
      · obtain ⟨k0_0, k0_1, k0_2⟩ := Box.c S4.out.2.1
        obtain ⟨k1_0, k1_1, k1_2⟩ := Box.c S4.out.2.2
        go_wp2_with fail
        clear k0_0 k0_1 k0_2 k1_0 k1_1 k1_2
        refine (HVA.out _).mono ?_
        rintro e w_5 ⟨rfl, hb⟩
        have S5 : Hid (Below w.heap.size w w_5 ∧ Box 24 w_5 HA n s r ∧ Box 24 w_5 HB m t q) := ⟨S4.out.1.trans (hb.mono S4.out.1.size), S4.out.2.1.below hb S4.out.2.1.lt, S4.out.2.2.below hb S4.out.2.2.lt⟩
        clear hb S4
        obtain ⟨k0_0, k0_1, k0_2⟩ := Box.c S5.out.2.1
        obtain ⟨k1_0, k1_1, k1_2⟩ := Box.c S5.out.2.2
        go_wp2_with fail
        clear k0_0 k0_1 k0_2 k1_0 k1_1 k1_2
        refine (HRS.out _).mono ?_
        rintro e w_6 ⟨rfl, hb⟩
        have S6 : Hid (Below w.heap.size w w_6 ∧ Box 24 w_6 HA n s r ∧ Box 24 w_6 HB m t q) := ⟨S5.out.1.trans (hb.mono S5.out.1.size), S5.out.2.1.below hb S5.out.2.1.lt, S5.out.2.2.below hb S5.out.2.2.lt⟩
        clear hb S5
        go_wp2
        go_ret
        exact ⟨by simp, S6.out.1⟩
      · obtain ⟨k0_0, k0_1, k0_2⟩ := Box.c S4.out.2.1
        obtain ⟨k1_0, k1_1, k1_2⟩ := Box.c S4.out.2.2
        go_wp2_with fail
        clear k0_0 k0_1 k0_2 k1_0 k1_1 k1_2
        refine (HVA.out _).mono ?_
        rintro e w_5 ⟨rfl, hb⟩
        have S5 : Hid (Below w.heap.size w w_5 ∧ Box 24 w_5 HA n s r ∧ Box 24 w_5 HB m t q) := ⟨S4.out.1.trans (hb.mono S4.out.1.size), S4.out.2.1.below hb S4.out.2.1.lt, S4.out.2.2.below hb S4.out.2.2.lt⟩
        clear hb S4
        obtain ⟨k0_0, k0_1, k0_2⟩ := Box.c S5.out.2.1
        obtain ⟨k1_0, k1_1, k1_2⟩ := Box.c S5.out.2.2
        go_wp2_with fail
        clear k0_0 k0_1 k0_2 k1_0 k1_1 k1_2
        refine (HRS.out _).mono ?_
        rintro e w_6 ⟨rfl, hb⟩
        have S6 : Hid (Below w.heap.size w w_6 ∧ Box 24 w_6 HA n s r ∧ Box 24 w_6 HB m t q) := ⟨S5.out.1.trans (hb.mono S5.out.1.size), S5.out.2.1.below hb S5.out.2.1.lt, S5.out.2.2.below hb S5.out.2.2.lt⟩
        clear hb S5
        go_wp2
        go_ret
        exact ⟨by simp, S6.out.1⟩
    | true =>
      have HVA := Lib.hid (fun W => valid_at (n := n) hs hr true hva W)
      clear hva
      obtain ⟨k0_0, k0_1, k0_2⟩ := Box.c S4.out.2.1
      obtain ⟨k1_0, k1_1, k1_2⟩ := Box.c S4.out.2.2
      go_wp2_with fail
      clear k0_0 k0_1 k0_2 k1_0 k1_1 k1_2
      refine (HVA.out _).mono ?_
      rintro e w_5 ⟨rfl, hb⟩
      have S5 : Hid (Below w.heap.size w w_5 ∧ Box 24 w_5 HA n s r ∧ Box 24 w_5 HB m t q) := ⟨S4.out.1.trans (hb.mono S4.out.1.size), S4.out.2.1.below hb S4.out.2.1.lt, S4.out.2.2.below hb S4.out.2.2.lt⟩
      clear hb S4
      clear HVA HRS t1 t2
      go_wp2_with fail
      refine (drawSameRank_any a1 n1 c1 _ (BY1.out.up S5.out.1.size (fun k hk => S5.out.1.block k hk)) nc1 cm1).mono ?_
      rintro e w_6 ⟨c, u, v, d, y, z, o, rfl, hcw, hu, hv, hdw, hy, hz, ho, hb⟩
      have S6 : Hid (Below w.heap.size w w_6 ∧ Box 24 w_6 HA n s r ∧ Box 24 w_6 HB m t q) := ⟨S5.out.1.trans (hb.mono S5.out.1.size), S5.out.2.1.below hb S5.out.2.1.lt, S5.out.2.2.below hb S5.out.2.2.lt⟩
      clear hb S5
      clear hcw hdw
      obtain ⟨w_7, hw_7⟩ : ∃ QZ, QZ = ((w_6.alloc (.cells #[.int .i64 c, .string u, .string v] 24)).alloc (.cells #[.int .i64 d, .string y, .string z] 24)) := ⟨_, rfl⟩
      obtain ⟨HC, hHC⟩ : ∃ QZ, QZ = w_6.heap.size := ⟨_, rfl⟩
      have lHC : HB < HC := by rw [hHC]; exact S6.out.2.2.lt
      have zHC : w.heap.size ≤ HC := by rw [hHC]; exact S6.out.1.size
      obtain ⟨HD, hHD⟩ : ∃ QZ, QZ = HC + 1 := ⟨_, rfl⟩
      have lHD : HC < HD := by omega
      have zHD : w.heap.size ≤ HD := by omega
      have S7 : Hid (Below w.heap.size w w_7 ∧ Box 24 w_7 HA n s r ∧ Box 24 w_7 HB m t q ∧ Box 24 w_7 HC c u v ∧ Box 24 w_7 HD d y z) := by rw [hw_7]; exact ⟨((S6.out.1).alloc (S6.out.1.size) _).alloc (by have := S6.out.1.size; simp only [World.size_alloc]; omega) _, S6.out.2.1.below (((Below.refl w_6.heap.size w_6).alloc (by simp) _).alloc (by simp) _) S6.out.2.1.lt, S6.out.2.2.below (((Below.refl w_6.heap.size w_6).alloc (by simp) _).alloc (by simp) _) S6.out.2.2.lt, ((Box.new 24 w_6 HC (by first | (rw [hHC]; done) | (rw [hHC]; simp)) c u v).below ((Below.refl _ _).alloc (Nat.le_refl _) _) (Box.new 24 w_6 HC (by first | (rw [hHC]; done) | (rw [hHC]; simp)) c u v).lt), (Box.new 24 (w_6.alloc (.cells #[.int .i64 c, .string u, .string v] 24)) HD (by first | (rw [hHD, hHC]; done) | (rw [hHD, hHC]; simp)) d y z)⟩
      clear S6
      go_upto_region 8 with (fail)
      rw [← hw_7]
      rw [← hHC]
      rw [← hHD]
      clear hw_7 hHC hHD
      go_cut [82] from 65 to 82 (fun tt wx => ∃ bb, tt = .bool bb ∧ Hid (bb = false → swnB c u v [] d y z [] x = true) ∧ Hid (Below w.heap.size w wx ∧ Box 24 wx HA n s r ∧ Box 24 wx HB m t q ∧ Box 24 wx HC c u v ∧ Box 24 wx HD d y z))
      case first =>
        by_cases ho0 : o < 0
        · have t1 : decide (o < 0) = true := decide_eq_true ho0
          go_wp2
          go_meet
          exact ⟨true, rfl, (fun e => by cases e), S7.out⟩
        · have t1 : decide (o < 0) = false := decide_eq_false ho0
          by_cases ho3 : 3 < o
          · have t2 : decide (3 < o) = true := decide_eq_true ho3
            go_wp2
            go_meet
            exact ⟨true, rfl, (fun e => by cases e), S7.out⟩
          · have t2 : decide (3 < o) = false := decide_eq_false ho3
            cases hvc : validB c u v with
            | false =>
              have HVC := Lib.hid (fun W => valid_at (n := c) hu hv false hvc W)
              clear hvc
              obtain ⟨k0_0, k0_1, k0_2⟩ := Box.c S7.out.2.2.2.1
              go_wp2_with fail
              clear k0_0 k0_1 k0_2
              refine (HVC.out _).mono ?_
              rintro e w_8 ⟨rfl, hb⟩
              have S8 : Hid (Below w.heap.size w w_8 ∧ Box 24 w_8 HA n s r ∧ Box 24 w_8 HB m t q ∧ Box 24 w_8 HC c u v ∧ Box 24 w_8 HD d y z) := ⟨S7.out.1.trans (hb.mono S7.out.1.size), S7.out.2.1.below hb S7.out.2.1.lt, S7.out.2.2.1.below hb S7.out.2.2.1.lt, S7.out.2.2.2.1.below hb S7.out.2.2.2.1.lt, S7.out.2.2.2.2.below hb S7.out.2.2.2.2.lt⟩
              clear hb S7
              go_wp2
              go_meet
              exact ⟨true, rfl, (fun e => by cases e), S8.out⟩
            | true =>
              have HVC := Lib.hid (fun W => valid_at (n := c) hu hv true hvc W)
              clear hvc
              obtain ⟨k0_0, k0_1, k0_2⟩ := Box.c S7.out.2.2.2.1
              go_wp2_with fail
              clear k0_0 k0_1 k0_2
              refine (HVC.out _).mono ?_
              rintro e w_8 ⟨rfl, hb⟩
              have S8 : Hid (Below w.heap.size w w_8 ∧ Box 24 w_8 HA n s r ∧ Box 24 w_8 HB m t q ∧ Box 24 w_8 HC c u v ∧ Box 24 w_8 HD d y z) := ⟨S7.out.1.trans (hb.mono S7.out.1.size), S7.out.2.1.below hb S7.out.2.1.lt, S7.out.2.2.1.below hb S7.out.2.2.1.lt, S7.out.2.2.2.1.below hb S7.out.2.2.2.1.lt, S7.out.2.2.2.2.below hb S7.out.2.2.2.2.lt⟩
              clear hb S7
              cases hcd : swnB c u v [] d y z [] x with
              | false =>
                have HCD := Lib.hid hcd
                clear hcd
                have HR := Lib.hid (fun W => rank_at hu hv hy hz false HCD.out W)
                obtain ⟨k0_0, k0_1, k0_2⟩ := Box.c S8.out.2.2.2.1
                obtain ⟨k1_0, k1_1, k1_2⟩ := Box.c S8.out.2.2.2.2
                go_wp2_with fail
                clear k0_0 k0_1 k0_2 k1_0 k1_1 k1_2
                refine (HR.out _).mono ?_
                rintro e w_9 ⟨rfl, hb⟩
                have S9 : Hid (Below w.heap.size w w_9 ∧ Box 24 w_9 HA n s r ∧ Box 24 w_9 HB m t q ∧ Box 24 w_9 HC c u v ∧ Box 24 w_9 HD d y z) := ⟨S8.out.1.trans (hb.mono S8.out.1.size), S8.out.2.1.below hb S8.out.2.1.lt, S8.out.2.2.1.below hb S8.out.2.2.1.lt, S8.out.2.2.2.1.below hb S8.out.2.2.2.1.lt, S8.out.2.2.2.2.below hb S8.out.2.2.2.2.lt⟩
                clear hb S8
                go_wp2
                go_meet
                exact ⟨true, rfl, (fun e => by cases e), S9.out⟩
              | true =>
                have HCD := Lib.hid hcd
                clear hcd
                have HR := Lib.hid (fun W => rank_at hu hv hy hz true HCD.out W)
                obtain ⟨k0_0, k0_1, k0_2⟩ := Box.c S8.out.2.2.2.1
                obtain ⟨k1_0, k1_1, k1_2⟩ := Box.c S8.out.2.2.2.2
                go_wp2_with fail
                clear k0_0 k0_1 k0_2 k1_0 k1_1 k1_2
                refine (HR.out _).mono ?_
                rintro e w_9 ⟨rfl, hb⟩
                have S9 : Hid (Below w.heap.size w w_9 ∧ Box 24 w_9 HA n s r ∧ Box 24 w_9 HB m t q ∧ Box 24 w_9 HC c u v ∧ Box 24 w_9 HD d y z) := ⟨S8.out.1.trans (hb.mono S8.out.1.size), S8.out.2.1.below hb S8.out.2.1.lt, S8.out.2.2.1.below hb S8.out.2.2.1.lt, S8.out.2.2.2.1.below hb S8.out.2.2.2.1.lt, S8.out.2.2.2.2.below hb S8.out.2.2.2.2.lt⟩
                clear hb S8
                go_wp2
                go_meet
                exact ⟨false, rfl, (fun _ => HCD.out), S9.out⟩
      case rest =>
        obtain ⟨bb, rfl, HBB, HSC⟩ := hcut
        clear S7
        cases bb
        · have S8 := HSC
          clear HSC
          cases hvc : validB c u v with
          | false =>
            have HVC := Lib.hid (fun W => valid_at (n := c) hu hv false hvc W)
            clear hvc
            obtain ⟨k0_0, k0_1, k0_2⟩ := Box.c S8.out.2.2.2.1
            go_wp2_with fail
            clear k0_0 k0_1 k0_2
            refine (HVC.out _).mono ?_
            rintro e w_9 ⟨rfl, hb⟩
            have S9 : Hid (Below w.heap.size w w_9 ∧ Box 24 w_9 HA n s r ∧ Box 24 w_9 HB m t q ∧ Box 24 w_9 HC c u v ∧ Box 24 w_9 HD d y z) := ⟨S8.out.1.trans (hb.mono S8.out.1.size), S8.out.2.1.below hb S8.out.2.1.lt, S8.out.2.2.1.below hb S8.out.2.2.1.lt, S8.out.2.2.2.1.below hb S8.out.2.2.2.1.lt, S8.out.2.2.2.2.below hb S8.out.2.2.2.2.lt⟩
            clear hb S8
            go_wp2
            go_ret
            exact ⟨rfl, S9.out.1⟩
          | true =>
            have HVC := Lib.hid (fun W => valid_at (n := c) hu hv true hvc W)
            have HDW : Hid (swnB c u v [] d y z [] x = true) := HBB.out rfl
            clear hvc
            obtain ⟨k0_0, k0_1, k0_2⟩ := Box.c S8.out.2.2.2.1
            go_wp2_with fail
            clear k0_0 k0_1 k0_2
            refine (HVC.out _).mono ?_
            rintro e w_9 ⟨rfl, hb⟩
            have S9 : Hid (Below w.heap.size w w_9 ∧ Box 24 w_9 HA n s r ∧ Box 24 w_9 HB m t q ∧ Box 24 w_9 HC c u v ∧ Box 24 w_9 HD d y z) := ⟨S8.out.1.trans (hb.mono S8.out.1.size), S8.out.2.1.below hb S8.out.2.1.lt, S8.out.2.2.1.below hb S8.out.2.2.1.lt, S8.out.2.2.2.1.below hb S8.out.2.2.2.1.lt, S8.out.2.2.2.2.below hb S8.out.2.2.2.2.lt⟩
            clear hb S8
            go_upto_region 12 with (fail)
            cases is
            · obtain ⟨x1a, y1a, z1a, k1a, x2a, y2a, z2a, k2a, hc1, hc2, hg⟩ := pair_dis HIS.out HDW.out hs hr ht hq hu hv hy hz
              have HC1 := Lib.hid hc1
              have HC2 := Lib.hid hc2
              have HG := Lib.hid hg
              clear hc1 hc2 hg
              obtain ⟨k0_0, k0_1, k0_2⟩ := Box.c S9.out.2.1
              obtain ⟨k1_0, k1_1, k1_2⟩ := Box.c S9.out.2.2.2.1
              go_wp2_with fail
              clear k0_0 k0_1 k0_2 k1_0 k1_1 k1_2
              refine (HC1.out _).mono ?_
              rintro e w_10 ⟨rfl, hb⟩
              have S10 : Hid (Below w.heap.size w w_10 ∧ Box 24 w_10 HA n s r ∧ Box 24 w_10 HB m t q ∧ Box 24 w_10 HC c u v ∧ Box 24 w_10 HD d y z) := ⟨S9.out.1.trans (hb.mono S9.out.1.size), S9.out.2.1.below hb S9.out.2.1.lt, S9.out.2.2.1.below hb S9.out.2.2.1.lt, S9.out.2.2.2.1.below hb S9.out.2.2.2.1.lt, S9.out.2.2.2.2.below hb S9.out.2.2.2.2.lt⟩
              clear hb S9
              obtain ⟨w_11, hw_11⟩ : ∃ QZ, QZ = (w_10.alloc (.cells #[.int .i64 x1a, .string y1a, .string z1a] 24)) := ⟨_, rfl⟩
              obtain ⟨HP, hHP⟩ : ∃ QZ, QZ = w_10.heap.size := ⟨_, rfl⟩
              have lHP : HD < HP := by rw [hHP]; exact S10.out.2.2.2.2.lt
              have zHP : w.heap.size ≤ HP := by rw [hHP]; exact S10.out.1.size
              have S11 : Hid (Below w.heap.size w w_11 ∧ Box 24 w_11 HA n s r ∧ Box 24 w_11 HB m t q ∧ Box 24 w_11 HC c u v ∧ Box 24 w_11 HD d y z ∧ Box 24 w_11 HP x1a y1a z1a) := by rw [hw_11]; exact ⟨(S10.out.1).alloc (S10.out.1.size) _, S10.out.2.1.below ((Below.refl w_10.heap.size w_10).alloc (by simp) _) S10.out.2.1.lt, S10.out.2.2.1.below ((Below.refl w_10.heap.size w_10).alloc (by simp) _) S10.out.2.2.1.lt, S10.out.2.2.2.1.below ((Below.refl w_10.heap.size w_10).alloc (by simp) _) S10.out.2.2.2.1.lt, S10.out.2.2.2.2.below ((Below.refl w_10.heap.size w_10).alloc (by simp) _) S10.out.2.2.2.2.lt, (Box.new 24 w_10 HP (by first | (rw [hHP]; done) | (rw [hHP]; simp)) x1a y1a z1a)⟩
              clear S10
              go_upto_region 13 with (fail)
              rw [← hw_11]
              rw [← hHP]
              clear hw_11 hHP
              obtain ⟨k0_0, k0_1, k0_2⟩ := Box.c S11.out.2.2.1
              obtain ⟨k1_0, k1_1, k1_2⟩ := Box.c S11.out.2.2.2.2.1
              go_wp2_with fail
              clear k0_0 k0_1 k0_2 k1_0 k1_1 k1_2
              refine (HC2.out _).mono ?_
              rintro e w_12 ⟨rfl, hb⟩
              have S12 : Hid (Below w.heap.size w w_12 ∧ Box 24 w_12 HA n s r ∧ Box 24 w_12 HB m t q ∧ Box 24 w_12 HC c u v ∧ Box 24 w_12 HD d y z ∧ Box 24 w_12 HP x1a y1a z1a) := ⟨S11.out.1.trans (hb.mono S11.out.1.size), S11.out.2.1.below hb S11.out.2.1.lt, S11.out.2.2.1.below hb S11.out.2.2.1.lt, S11.out.2.2.2.1.below hb S11.out.2.2.2.1.lt, S11.out.2.2.2.2.1.below hb S11.out.2.2.2.2.1.lt, S11.out.2.2.2.2.2.below hb S11.out.2.2.2.2.2.lt⟩
              clear hb S11
              obtain ⟨w_13, hw_13⟩ : ∃ QZ, QZ = (w_12.alloc (.cells #[.int .i64 x2a, .string y2a, .string z2a] 24)) := ⟨_, rfl⟩
              obtain ⟨HQ, hHQ⟩ : ∃ QZ, QZ = w_12.heap.size := ⟨_, rfl⟩
              have lHQ : HP < HQ := by rw [hHQ]; exact S12.out.2.2.2.2.2.lt
              have zHQ : w.heap.size ≤ HQ := by rw [hHQ]; exact S12.out.1.size
              have S13 : Hid (Below w.heap.size w w_13 ∧ Box 24 w_13 HA n s r ∧ Box 24 w_13 HB m t q ∧ Box 24 w_13 HC c u v ∧ Box 24 w_13 HD d y z ∧ Box 24 w_13 HP x1a y1a z1a ∧ Box 24 w_13 HQ x2a y2a z2a) := by rw [hw_13]; exact ⟨(S12.out.1).alloc (S12.out.1.size) _, S12.out.2.1.below ((Below.refl w_12.heap.size w_12).alloc (by simp) _) S12.out.2.1.lt, S12.out.2.2.1.below ((Below.refl w_12.heap.size w_12).alloc (by simp) _) S12.out.2.2.1.lt, S12.out.2.2.2.1.below ((Below.refl w_12.heap.size w_12).alloc (by simp) _) S12.out.2.2.2.1.lt, S12.out.2.2.2.2.1.below ((Below.refl w_12.heap.size w_12).alloc (by simp) _) S12.out.2.2.2.2.1.lt, S12.out.2.2.2.2.2.below ((Below.refl w_12.heap.size w_12).alloc (by simp) _) S12.out.2.2.2.2.2.lt, (Box.new 24 w_12 HQ (by first | (rw [hHQ]; done) | (rw [hHQ]; simp)) x2a y2a z2a)⟩
              clear S12
              go_upto_region 14 with (fail)
              rw [← hw_13]
              rw [← hHQ]
              clear hw_13 hHQ
              obtain ⟨x1b, y1b, z1b, k1b, x2b, y2b, z2b, k2b, hc1, hc2, hg⟩ := pair_ord HIS.out HDW.out hs hr ht hq hu hv hy hz
              have HC1 := Lib.hid hc1
              have HC2 := Lib.hid hc2
              have HG := Lib.hid hg
              clear hc1 hc2 hg
              obtain ⟨k0_0, k0_1, k0_2⟩ := Box.c S13.out.2.1
              obtain ⟨k1_0, k1_1, k1_2⟩ := Box.c S13.out.2.2.2.1
              go_wp2_with fail
              clear k0_0 k0_1 k0_2 k1_0 k1_1 k1_2
              refine (HC1.out _).mono ?_
              rintro e w_14 ⟨rfl, hb⟩
              have S14 : Hid (Below w.heap.size w w_14 ∧ Box 24 w_14 HA n s r ∧ Box 24 w_14 HB m t q ∧ Box 24 w_14 HC c u v ∧ Box 24 w_14 HD d y z ∧ Box 24 w_14 HP x1a y1a z1a ∧ Box 24 w_14 HQ x2a y2a z2a) := ⟨S13.out.1.trans (hb.mono S13.out.1.size), S13.out.2.1.below hb S13.out.2.1.lt, S13.out.2.2.1.below hb S13.out.2.2.1.lt, S13.out.2.2.2.1.below hb S13.out.2.2.2.1.lt, S13.out.2.2.2.2.1.below hb S13.out.2.2.2.2.1.lt, S13.out.2.2.2.2.2.1.below hb S13.out.2.2.2.2.2.1.lt, S13.out.2.2.2.2.2.2.below hb S13.out.2.2.2.2.2.2.lt⟩
              clear hb S13
              obtain ⟨z0_, z1_, z2_⟩ := Box.c S14.out.2.2.2.2.2.1
              have f0_ := Box.free S14.out.2.2.2.2.2.1 0
              have f1_ := Box.free S14.out.2.2.2.2.2.1 1
              have f2_ := Box.free S14.out.2.2.2.2.2.1 2
              obtain ⟨w_15, hw_15⟩ : ∃ QZ, QZ = (((w_14.setCell ⟨HP, 0, none⟩ (.int .i64 x1b)).setCell ⟨HP, 1, none⟩ (.string y1b)).setCell ⟨HP, 2, none⟩ (.string z1b)) := ⟨_, rfl⟩
              have S15 : Hid (Below w.heap.size w w_15 ∧ Box 24 w_15 HA n s r ∧ Box 24 w_15 HB m t q ∧ Box 24 w_15 HC c u v ∧ Box 24 w_15 HD d y z ∧ Box 24 w_15 HP x1b y1b z1b ∧ Box 24 w_15 HQ x2a y2a z2a) := by rw [hw_15]; exact ⟨Below.setCell (Below.setCell (Below.setCell S14.out.1 (by simp; omega) _) (by simp; omega) _) (by simp; omega) _, box_others S14.out.2.1 (by omega), box_others S14.out.2.2.1 (by omega), box_others S14.out.2.2.2.1 (by omega), box_others S14.out.2.2.2.2.1 (by omega), ((Box.set0 S14.out.2.2.2.2.2.1 x1b).set1 y1b).set2 z1b, box_others S14.out.2.2.2.2.2.2 (by omega)⟩
              clear S14
              go_upto_region 17 with (fail)
              clear z0_ z1_ z2_ f0_ f1_ f2_
              rw [← hw_15]
              clear hw_15
              obtain ⟨k0_0, k0_1, k0_2⟩ := Box.c S15.out.2.2.1
              obtain ⟨k1_0, k1_1, k1_2⟩ := Box.c S15.out.2.2.2.2.1
              go_wp2_with fail
              clear k0_0 k0_1 k0_2 k1_0 k1_1 k1_2
              refine (HC2.out _).mono ?_
              rintro e w_16 ⟨rfl, hb⟩
              have S16 : Hid (Below w.heap.size w w_16 ∧ Box 24 w_16 HA n s r ∧ Box 24 w_16 HB m t q ∧ Box 24 w_16 HC c u v ∧ Box 24 w_16 HD d y z ∧ Box 24 w_16 HP x1b y1b z1b ∧ Box 24 w_16 HQ x2a y2a z2a) := ⟨S15.out.1.trans (hb.mono S15.out.1.size), S15.out.2.1.below hb S15.out.2.1.lt, S15.out.2.2.1.below hb S15.out.2.2.1.lt, S15.out.2.2.2.1.below hb S15.out.2.2.2.1.lt, S15.out.2.2.2.2.1.below hb S15.out.2.2.2.2.1.lt, S15.out.2.2.2.2.2.1.below hb S15.out.2.2.2.2.2.1.lt, S15.out.2.2.2.2.2.2.below hb S15.out.2.2.2.2.2.2.lt⟩
              clear hb S15
              obtain ⟨z0_, z1_, z2_⟩ := Box.c S16.out.2.2.2.2.2.2
              have f0_ := Box.free S16.out.2.2.2.2.2.2 0
              have f1_ := Box.free S16.out.2.2.2.2.2.2 1
              have f2_ := Box.free S16.out.2.2.2.2.2.2 2
              obtain ⟨w_17, hw_17⟩ : ∃ QZ, QZ = (((w_16.setCell ⟨HQ, 0, none⟩ (.int .i64 x2b)).setCell ⟨HQ, 1, none⟩ (.string y2b)).setCell ⟨HQ, 2, none⟩ (.string z2b)) := ⟨_, rfl⟩
              have S17 : Hid (Below w.heap.size w w_17 ∧ Box 24 w_17 HA n s r ∧ Box 24 w_17 HB m t q ∧ Box 24 w_17 HC c u v ∧ Box 24 w_17 HD d y z ∧ Box 24 w_17 HP x1b y1b z1b ∧ Box 24 w_17 HQ x2b y2b z2b) := by rw [hw_17]; exact ⟨Below.setCell (Below.setCell (Below.setCell S16.out.1 (by simp; omega) _) (by simp; omega) _) (by simp; omega) _, box_others S16.out.2.1 (by omega), box_others S16.out.2.2.1 (by omega), box_others S16.out.2.2.2.1 (by omega), box_others S16.out.2.2.2.2.1 (by omega), box_others S16.out.2.2.2.2.2.1 (by omega), ((Box.set0 S16.out.2.2.2.2.2.2 x2b).set1 y2b).set2 z2b⟩
              clear S16
              go_upto_region 18 with (fail)
              clear z0_ z1_ z2_ f0_ f1_ f2_
              rw [← hw_17]
              clear hw_17
              obtain ⟨x1c, y1c, z1c, k1c, x2c, y2c, z2c, k2c, hc1, hc2, hg⟩ := pair_prod HIS.out HDW.out hs hr ht hq hu hv hy hz
              have HC1 := Lib.hid hc1
              have HC2 := Lib.hid hc2
              have HG := Lib.hid hg
              clear hc1 hc2 hg
              obtain ⟨k0_0, k0_1, k0_2⟩ := Box.c S17.out.2.1
              obtain ⟨k1_0, k1_1, k1_2⟩ := Box.c S17.out.2.2.2.1
              go_wp2_with fail
              clear k0_0 k0_1 k0_2 k1_0 k1_1 k1_2
              refine (HC1.out _).mono ?_
              rintro e w_18 ⟨rfl, hb⟩
              have S18 : Hid (Below w.heap.size w w_18 ∧ Box 24 w_18 HA n s r ∧ Box 24 w_18 HB m t q ∧ Box 24 w_18 HC c u v ∧ Box 24 w_18 HD d y z ∧ Box 24 w_18 HP x1b y1b z1b ∧ Box 24 w_18 HQ x2b y2b z2b) := ⟨S17.out.1.trans (hb.mono S17.out.1.size), S17.out.2.1.below hb S17.out.2.1.lt, S17.out.2.2.1.below hb S17.out.2.2.1.lt, S17.out.2.2.2.1.below hb S17.out.2.2.2.1.lt, S17.out.2.2.2.2.1.below hb S17.out.2.2.2.2.1.lt, S17.out.2.2.2.2.2.1.below hb S17.out.2.2.2.2.2.1.lt, S17.out.2.2.2.2.2.2.below hb S17.out.2.2.2.2.2.2.lt⟩
              clear hb S17
              obtain ⟨z0_, z1_, z2_⟩ := Box.c S18.out.2.2.2.2.2.1
              have f0_ := Box.free S18.out.2.2.2.2.2.1 0
              have f1_ := Box.free S18.out.2.2.2.2.2.1 1
              have f2_ := Box.free S18.out.2.2.2.2.2.1 2
              obtain ⟨w_19, hw_19⟩ : ∃ QZ, QZ = (((w_18.setCell ⟨HP, 0, none⟩ (.int .i64 x1c)).setCell ⟨HP, 1, none⟩ (.string y1c)).setCell ⟨HP, 2, none⟩ (.string z1c)) := ⟨_, rfl⟩
              have S19 : Hid (Below w.heap.size w w_19 ∧ Box 24 w_19 HA n s r ∧ Box 24 w_19 HB m t q ∧ Box 24 w_19 HC c u v ∧ Box 24 w_19 HD d y z ∧ Box 24 w_19 HP x1c y1c z1c ∧ Box 24 w_19 HQ x2b y2b z2b) := by rw [hw_19]; exact ⟨Below.setCell (Below.setCell (Below.setCell S18.out.1 (by simp; omega) _) (by simp; omega) _) (by simp; omega) _, box_others S18.out.2.1 (by omega), box_others S18.out.2.2.1 (by omega), box_others S18.out.2.2.2.1 (by omega), box_others S18.out.2.2.2.2.1 (by omega), ((Box.set0 S18.out.2.2.2.2.2.1 x1c).set1 y1c).set2 z1c, box_others S18.out.2.2.2.2.2.2 (by omega)⟩
              clear S18
              go_upto_region 21 with (fail)
              clear z0_ z1_ z2_ f0_ f1_ f2_
              rw [← hw_19]
              clear hw_19
              obtain ⟨k0_0, k0_1, k0_2⟩ := Box.c S19.out.2.2.1
              obtain ⟨k1_0, k1_1, k1_2⟩ := Box.c S19.out.2.2.2.2.1
              go_wp2_with fail
              clear k0_0 k0_1 k0_2 k1_0 k1_1 k1_2
              refine (HC2.out _).mono ?_
              rintro e w_20 ⟨rfl, hb⟩
              have S20 : Hid (Below w.heap.size w w_20 ∧ Box 24 w_20 HA n s r ∧ Box 24 w_20 HB m t q ∧ Box 24 w_20 HC c u v ∧ Box 24 w_20 HD d y z ∧ Box 24 w_20 HP x1c y1c z1c ∧ Box 24 w_20 HQ x2b y2b z2b) := ⟨S19.out.1.trans (hb.mono S19.out.1.size), S19.out.2.1.below hb S19.out.2.1.lt, S19.out.2.2.1.below hb S19.out.2.2.1.lt, S19.out.2.2.2.1.below hb S19.out.2.2.2.1.lt, S19.out.2.2.2.2.1.below hb S19.out.2.2.2.2.1.lt, S19.out.2.2.2.2.2.1.below hb S19.out.2.2.2.2.2.1.lt, S19.out.2.2.2.2.2.2.below hb S19.out.2.2.2.2.2.2.lt⟩
              clear hb S19
              obtain ⟨z0_, z1_, z2_⟩ := Box.c S20.out.2.2.2.2.2.2
              have f0_ := Box.free S20.out.2.2.2.2.2.2 0
              have f1_ := Box.free S20.out.2.2.2.2.2.2 1
              have f2_ := Box.free S20.out.2.2.2.2.2.2 2
              obtain ⟨w_21, hw_21⟩ : ∃ QZ, QZ = (((w_20.setCell ⟨HQ, 0, none⟩ (.int .i64 x2c)).setCell ⟨HQ, 1, none⟩ (.string y2c)).setCell ⟨HQ, 2, none⟩ (.string z2c)) := ⟨_, rfl⟩
              have S21 : Hid (Below w.heap.size w w_21 ∧ Box 24 w_21 HA n s r ∧ Box 24 w_21 HB m t q ∧ Box 24 w_21 HC c u v ∧ Box 24 w_21 HD d y z ∧ Box 24 w_21 HP x1c y1c z1c ∧ Box 24 w_21 HQ x2c y2c z2c) := by rw [hw_21]; exact ⟨Below.setCell (Below.setCell (Below.setCell S20.out.1 (by simp; omega) _) (by simp; omega) _) (by simp; omega) _, box_others S20.out.2.1 (by omega), box_others S20.out.2.2.1 (by omega), box_others S20.out.2.2.2.1 (by omega), box_others S20.out.2.2.2.2.1 (by omega), box_others S20.out.2.2.2.2.2.1 (by omega), ((Box.set0 S20.out.2.2.2.2.2.2 x2c).set1 y2c).set2 z2c⟩
              clear S20
              go_upto_region 22 with (fail)
              clear z0_ z1_ z2_ f0_ f1_ f2_
              rw [← hw_21]
              clear hw_21
              go_wp2
              go_ret
              exact ⟨rfl, S21.out.1⟩
            · obtain ⟨x1a, y1a, z1a, k1a, x2a, y2a, z2a, k2a, hc1, hc2, hg⟩ := pair_dis HIS.out HDW.out hs hr ht hq hu hv hy hz
              have HC1 := Lib.hid hc1
              have HC2 := Lib.hid hc2
              have HG := Lib.hid hg
              clear hc1 hc2 hg
              obtain ⟨k0_0, k0_1, k0_2⟩ := Box.c S9.out.2.1
              obtain ⟨k1_0, k1_1, k1_2⟩ := Box.c S9.out.2.2.2.1
              go_wp2_with fail
              clear k0_0 k0_1 k0_2 k1_0 k1_1 k1_2
              refine (HC1.out _).mono ?_
              rintro e w_10 ⟨rfl, hb⟩
              have S10 : Hid (Below w.heap.size w w_10 ∧ Box 24 w_10 HA n s r ∧ Box 24 w_10 HB m t q ∧ Box 24 w_10 HC c u v ∧ Box 24 w_10 HD d y z) := ⟨S9.out.1.trans (hb.mono S9.out.1.size), S9.out.2.1.below hb S9.out.2.1.lt, S9.out.2.2.1.below hb S9.out.2.2.1.lt, S9.out.2.2.2.1.below hb S9.out.2.2.2.1.lt, S9.out.2.2.2.2.below hb S9.out.2.2.2.2.lt⟩
              clear hb S9
              obtain ⟨w_11, hw_11⟩ : ∃ QZ, QZ = (w_10.alloc (.cells #[.int .i64 x1a, .string y1a, .string z1a] 24)) := ⟨_, rfl⟩
              obtain ⟨HP, hHP⟩ : ∃ QZ, QZ = w_10.heap.size := ⟨_, rfl⟩
              have lHP : HD < HP := by rw [hHP]; exact S10.out.2.2.2.2.lt
              have zHP : w.heap.size ≤ HP := by rw [hHP]; exact S10.out.1.size
              have S11 : Hid (Below w.heap.size w w_11 ∧ Box 24 w_11 HA n s r ∧ Box 24 w_11 HB m t q ∧ Box 24 w_11 HC c u v ∧ Box 24 w_11 HD d y z ∧ Box 24 w_11 HP x1a y1a z1a) := by rw [hw_11]; exact ⟨(S10.out.1).alloc (S10.out.1.size) _, S10.out.2.1.below ((Below.refl w_10.heap.size w_10).alloc (by simp) _) S10.out.2.1.lt, S10.out.2.2.1.below ((Below.refl w_10.heap.size w_10).alloc (by simp) _) S10.out.2.2.1.lt, S10.out.2.2.2.1.below ((Below.refl w_10.heap.size w_10).alloc (by simp) _) S10.out.2.2.2.1.lt, S10.out.2.2.2.2.below ((Below.refl w_10.heap.size w_10).alloc (by simp) _) S10.out.2.2.2.2.lt, (Box.new 24 w_10 HP (by first | (rw [hHP]; done) | (rw [hHP]; simp)) x1a y1a z1a)⟩
              clear S10
              go_upto_region 13 with (fail)
              rw [← hw_11]
              rw [← hHP]
              clear hw_11 hHP
              obtain ⟨k0_0, k0_1, k0_2⟩ := Box.c S11.out.2.2.1
              obtain ⟨k1_0, k1_1, k1_2⟩ := Box.c S11.out.2.2.2.2.1
              go_wp2_with fail
              clear k0_0 k0_1 k0_2 k1_0 k1_1 k1_2
              refine (HC2.out _).mono ?_
              rintro e w_12 ⟨rfl, hb⟩
              have S12 : Hid (Below w.heap.size w w_12 ∧ Box 24 w_12 HA n s r ∧ Box 24 w_12 HB m t q ∧ Box 24 w_12 HC c u v ∧ Box 24 w_12 HD d y z ∧ Box 24 w_12 HP x1a y1a z1a) := ⟨S11.out.1.trans (hb.mono S11.out.1.size), S11.out.2.1.below hb S11.out.2.1.lt, S11.out.2.2.1.below hb S11.out.2.2.1.lt, S11.out.2.2.2.1.below hb S11.out.2.2.2.1.lt, S11.out.2.2.2.2.1.below hb S11.out.2.2.2.2.1.lt, S11.out.2.2.2.2.2.below hb S11.out.2.2.2.2.2.lt⟩
              clear hb S11
              obtain ⟨w_13, hw_13⟩ : ∃ QZ, QZ = (w_12.alloc (.cells #[.int .i64 x2a, .string y2a, .string z2a] 24)) := ⟨_, rfl⟩
              obtain ⟨HQ, hHQ⟩ : ∃ QZ, QZ = w_12.heap.size := ⟨_, rfl⟩
              have lHQ : HP < HQ := by rw [hHQ]; exact S12.out.2.2.2.2.2.lt
              have zHQ : w.heap.size ≤ HQ := by rw [hHQ]; exact S12.out.1.size
              have S13 : Hid (Below w.heap.size w w_13 ∧ Box 24 w_13 HA n s r ∧ Box 24 w_13 HB m t q ∧ Box 24 w_13 HC c u v ∧ Box 24 w_13 HD d y z ∧ Box 24 w_13 HP x1a y1a z1a ∧ Box 24 w_13 HQ x2a y2a z2a) := by rw [hw_13]; exact ⟨(S12.out.1).alloc (S12.out.1.size) _, S12.out.2.1.below ((Below.refl w_12.heap.size w_12).alloc (by simp) _) S12.out.2.1.lt, S12.out.2.2.1.below ((Below.refl w_12.heap.size w_12).alloc (by simp) _) S12.out.2.2.1.lt, S12.out.2.2.2.1.below ((Below.refl w_12.heap.size w_12).alloc (by simp) _) S12.out.2.2.2.1.lt, S12.out.2.2.2.2.1.below ((Below.refl w_12.heap.size w_12).alloc (by simp) _) S12.out.2.2.2.2.1.lt, S12.out.2.2.2.2.2.below ((Below.refl w_12.heap.size w_12).alloc (by simp) _) S12.out.2.2.2.2.2.lt, (Box.new 24 w_12 HQ (by first | (rw [hHQ]; done) | (rw [hHQ]; simp)) x2a y2a z2a)⟩
              clear S12
              go_upto_region 14 with (fail)
              rw [← hw_13]
              rw [← hHQ]
              clear hw_13 hHQ
              go_cut [112] from 99 to 112 (fun tt wx => tt = .bool false ∧ Hid (Below w.heap.size w wx ∧ Box 24 wx HA n s r ∧ Box 24 wx HB m t q ∧ Box 24 wx HC c u v ∧ Box 24 wx HD d y z ∧ Box 24 wx HP x1a y1a z1a ∧ Box 24 wx HQ x2a y2a z2a))
              case first =>
                cases k1a
                · go_wp2
                  go_meet
                  exact ⟨rfl, S13.out⟩
                · cases k2a
                  · go_wp2
                    go_meet
                    exact ⟨rfl, S13.out⟩
                  · have hsw := HG.out (by simp) (by simp) (by simp)
                    obtain ⟨va, vb⟩ := swn_valid hsw
                    have HR := Lib.hid (fun W => rank_at (valid_small va).1 (valid_small va).2 (valid_small vb).1 (valid_small vb).2 true hsw W)
                    clear hsw va vb
                    obtain ⟨k0_0, k0_1, k0_2⟩ := Box.c S13.out.2.2.2.2.2.1
                    obtain ⟨k1_0, k1_1, k1_2⟩ := Box.c S13.out.2.2.2.2.2.2
                    go_wp2_with fail
                    clear k0_0 k0_1 k0_2 k1_0 k1_1 k1_2
                    refine (HR.out _).mono ?_
                    rintro e w_14 ⟨rfl, hb⟩
                    have S14 : Hid (Below w.heap.size w w_14 ∧ Box 24 w_14 HA n s r ∧ Box 24 w_14 HB m t q ∧ Box 24 w_14 HC c u v ∧ Box 24 w_14 HD d y z ∧ Box 24 w_14 HP x1a y1a z1a ∧ Box 24 w_14 HQ x2a y2a z2a) := ⟨S13.out.1.trans (hb.mono S13.out.1.size), S13.out.2.1.below hb S13.out.2.1.lt, S13.out.2.2.1.below hb S13.out.2.2.1.lt, S13.out.2.2.2.1.below hb S13.out.2.2.2.1.lt, S13.out.2.2.2.2.1.below hb S13.out.2.2.2.2.1.lt, S13.out.2.2.2.2.2.1.below hb S13.out.2.2.2.2.2.1.lt, S13.out.2.2.2.2.2.2.below hb S13.out.2.2.2.2.2.2.lt⟩
                    clear hb S13
                    go_wp2
                    go_meet
                    exact ⟨rfl, S14.out⟩
              case rest =>
                obtain ⟨rfl, HSC⟩ := hcut
                clear S13
                have S14 := HSC
                clear HSC
                obtain ⟨x1b, y1b, z1b, k1b, x2b, y2b, z2b, k2b, hc1, hc2, hg⟩ := pair_ord HIS.out HDW.out hs hr ht hq hu hv hy hz
                have HC1 := Lib.hid hc1
                have HC2 := Lib.hid hc2
                have HG := Lib.hid hg
                clear hc1 hc2 hg
                obtain ⟨k0_0, k0_1, k0_2⟩ := Box.c S14.out.2.1
                obtain ⟨k1_0, k1_1, k1_2⟩ := Box.c S14.out.2.2.2.1
                go_wp2_with fail
                clear k0_0 k0_1 k0_2 k1_0 k1_1 k1_2
                refine (HC1.out _).mono ?_
                rintro e w_15 ⟨rfl, hb⟩
                have S15 : Hid (Below w.heap.size w w_15 ∧ Box 24 w_15 HA n s r ∧ Box 24 w_15 HB m t q ∧ Box 24 w_15 HC c u v ∧ Box 24 w_15 HD d y z ∧ Box 24 w_15 HP x1a y1a z1a ∧ Box 24 w_15 HQ x2a y2a z2a) := ⟨S14.out.1.trans (hb.mono S14.out.1.size), S14.out.2.1.below hb S14.out.2.1.lt, S14.out.2.2.1.below hb S14.out.2.2.1.lt, S14.out.2.2.2.1.below hb S14.out.2.2.2.1.lt, S14.out.2.2.2.2.1.below hb S14.out.2.2.2.2.1.lt, S14.out.2.2.2.2.2.1.below hb S14.out.2.2.2.2.2.1.lt, S14.out.2.2.2.2.2.2.below hb S14.out.2.2.2.2.2.2.lt⟩
                clear hb S14
                obtain ⟨z0_, z1_, z2_⟩ := Box.c S15.out.2.2.2.2.2.1
                have f0_ := Box.free S15.out.2.2.2.2.2.1 0
                have f1_ := Box.free S15.out.2.2.2.2.2.1 1
                have f2_ := Box.free S15.out.2.2.2.2.2.1 2
                obtain ⟨w_16, hw_16⟩ : ∃ QZ, QZ = (((w_15.setCell ⟨HP, 0, none⟩ (.int .i64 x1b)).setCell ⟨HP, 1, none⟩ (.string y1b)).setCell ⟨HP, 2, none⟩ (.string z1b)) := ⟨_, rfl⟩
                have S16 : Hid (Below w.heap.size w w_16 ∧ Box 24 w_16 HA n s r ∧ Box 24 w_16 HB m t q ∧ Box 24 w_16 HC c u v ∧ Box 24 w_16 HD d y z ∧ Box 24 w_16 HP x1b y1b z1b ∧ Box 24 w_16 HQ x2a y2a z2a) := by rw [hw_16]; exact ⟨Below.setCell (Below.setCell (Below.setCell S15.out.1 (by simp; omega) _) (by simp; omega) _) (by simp; omega) _, box_others S15.out.2.1 (by omega), box_others S15.out.2.2.1 (by omega), box_others S15.out.2.2.2.1 (by omega), box_others S15.out.2.2.2.2.1 (by omega), ((Box.set0 S15.out.2.2.2.2.2.1 x1b).set1 y1b).set2 z1b, box_others S15.out.2.2.2.2.2.2 (by omega)⟩
                clear S15
                go_upto_region 17 with (fail)
                clear z0_ z1_ z2_ f0_ f1_ f2_
                rw [← hw_16]
                clear hw_16
                obtain ⟨k0_0, k0_1, k0_2⟩ := Box.c S16.out.2.2.1
                obtain ⟨k1_0, k1_1, k1_2⟩ := Box.c S16.out.2.2.2.2.1
                go_wp2_with fail
                clear k0_0 k0_1 k0_2 k1_0 k1_1 k1_2
                refine (HC2.out _).mono ?_
                rintro e w_17 ⟨rfl, hb⟩
                have S17 : Hid (Below w.heap.size w w_17 ∧ Box 24 w_17 HA n s r ∧ Box 24 w_17 HB m t q ∧ Box 24 w_17 HC c u v ∧ Box 24 w_17 HD d y z ∧ Box 24 w_17 HP x1b y1b z1b ∧ Box 24 w_17 HQ x2a y2a z2a) := ⟨S16.out.1.trans (hb.mono S16.out.1.size), S16.out.2.1.below hb S16.out.2.1.lt, S16.out.2.2.1.below hb S16.out.2.2.1.lt, S16.out.2.2.2.1.below hb S16.out.2.2.2.1.lt, S16.out.2.2.2.2.1.below hb S16.out.2.2.2.2.1.lt, S16.out.2.2.2.2.2.1.below hb S16.out.2.2.2.2.2.1.lt, S16.out.2.2.2.2.2.2.below hb S16.out.2.2.2.2.2.2.lt⟩
                clear hb S16
                obtain ⟨z0_, z1_, z2_⟩ := Box.c S17.out.2.2.2.2.2.2
                have f0_ := Box.free S17.out.2.2.2.2.2.2 0
                have f1_ := Box.free S17.out.2.2.2.2.2.2 1
                have f2_ := Box.free S17.out.2.2.2.2.2.2 2
                obtain ⟨w_18, hw_18⟩ : ∃ QZ, QZ = (((w_17.setCell ⟨HQ, 0, none⟩ (.int .i64 x2b)).setCell ⟨HQ, 1, none⟩ (.string y2b)).setCell ⟨HQ, 2, none⟩ (.string z2b)) := ⟨_, rfl⟩
                have S18 : Hid (Below w.heap.size w w_18 ∧ Box 24 w_18 HA n s r ∧ Box 24 w_18 HB m t q ∧ Box 24 w_18 HC c u v ∧ Box 24 w_18 HD d y z ∧ Box 24 w_18 HP x1b y1b z1b ∧ Box 24 w_18 HQ x2b y2b z2b) := by rw [hw_18]; exact ⟨Below.setCell (Below.setCell (Below.setCell S17.out.1 (by simp; omega) _) (by simp; omega) _) (by simp; omega) _, box_others S17.out.2.1 (by omega), box_others S17.out.2.2.1 (by omega), box_others S17.out.2.2.2.1 (by omega), box_others S17.out.2.2.2.2.1 (by omega), box_others S17.out.2.2.2.2.2.1 (by omega), ((Box.set0 S17.out.2.2.2.2.2.2 x2b).set1 y2b).set2 z2b⟩
                clear S17
                go_upto_region 18 with (fail)
                clear z0_ z1_ z2_ f0_ f1_ f2_
                rw [← hw_18]
                clear hw_18
                go_cut [138] from 125 to 138 (fun tt wx => tt = .bool false ∧ Hid (Below w.heap.size w wx ∧ Box 24 wx HA n s r ∧ Box 24 wx HB m t q ∧ Box 24 wx HC c u v ∧ Box 24 wx HD d y z ∧ Box 24 wx HP x1b y1b z1b ∧ Box 24 wx HQ x2b y2b z2b))
                case first =>
                  cases k1b
                  · go_wp2
                    go_meet
                    exact ⟨rfl, S18.out⟩
                  · cases k2b
                    · go_wp2
                      go_meet
                      exact ⟨rfl, S18.out⟩
                    · have hsw := HG.out (by simp) (by simp) (by simp)
                      obtain ⟨va, vb⟩ := swn_valid hsw
                      have HR := Lib.hid (fun W => rank_at (valid_small va).1 (valid_small va).2 (valid_small vb).1 (valid_small vb).2 true hsw W)
                      clear hsw va vb
                      obtain ⟨k0_0, k0_1, k0_2⟩ := Box.c S18.out.2.2.2.2.2.1
                      obtain ⟨k1_0, k1_1, k1_2⟩ := Box.c S18.out.2.2.2.2.2.2
                      go_wp2_with fail
                      clear k0_0 k0_1 k0_2 k1_0 k1_1 k1_2
                      refine (HR.out _).mono ?_
                      rintro e w_19 ⟨rfl, hb⟩
                      have S19 : Hid (Below w.heap.size w w_19 ∧ Box 24 w_19 HA n s r ∧ Box 24 w_19 HB m t q ∧ Box 24 w_19 HC c u v ∧ Box 24 w_19 HD d y z ∧ Box 24 w_19 HP x1b y1b z1b ∧ Box 24 w_19 HQ x2b y2b z2b) := ⟨S18.out.1.trans (hb.mono S18.out.1.size), S18.out.2.1.below hb S18.out.2.1.lt, S18.out.2.2.1.below hb S18.out.2.2.1.lt, S18.out.2.2.2.1.below hb S18.out.2.2.2.1.lt, S18.out.2.2.2.2.1.below hb S18.out.2.2.2.2.1.lt, S18.out.2.2.2.2.2.1.below hb S18.out.2.2.2.2.2.1.lt, S18.out.2.2.2.2.2.2.below hb S18.out.2.2.2.2.2.2.lt⟩
                      clear hb S18
                      go_wp2
                      go_meet
                      exact ⟨rfl, S19.out⟩
                case rest =>
                  obtain ⟨rfl, HSC⟩ := hcut
                  clear S18
                  have S19 := HSC
                  clear HSC
                  obtain ⟨x1c, y1c, z1c, k1c, x2c, y2c, z2c, k2c, hc1, hc2, hg⟩ := pair_prod HIS.out HDW.out hs hr ht hq hu hv hy hz
                  have HC1 := Lib.hid hc1
                  have HC2 := Lib.hid hc2
                  have HG := Lib.hid hg
                  clear hc1 hc2 hg
                  obtain ⟨k0_0, k0_1, k0_2⟩ := Box.c S19.out.2.1
                  obtain ⟨k1_0, k1_1, k1_2⟩ := Box.c S19.out.2.2.2.1
                  go_wp2_with fail
                  clear k0_0 k0_1 k0_2 k1_0 k1_1 k1_2
                  refine (HC1.out _).mono ?_
                  rintro e w_20 ⟨rfl, hb⟩
                  have S20 : Hid (Below w.heap.size w w_20 ∧ Box 24 w_20 HA n s r ∧ Box 24 w_20 HB m t q ∧ Box 24 w_20 HC c u v ∧ Box 24 w_20 HD d y z ∧ Box 24 w_20 HP x1b y1b z1b ∧ Box 24 w_20 HQ x2b y2b z2b) := ⟨S19.out.1.trans (hb.mono S19.out.1.size), S19.out.2.1.below hb S19.out.2.1.lt, S19.out.2.2.1.below hb S19.out.2.2.1.lt, S19.out.2.2.2.1.below hb S19.out.2.2.2.1.lt, S19.out.2.2.2.2.1.below hb S19.out.2.2.2.2.1.lt, S19.out.2.2.2.2.2.1.below hb S19.out.2.2.2.2.2.1.lt, S19.out.2.2.2.2.2.2.below hb S19.out.2.2.2.2.2.2.lt⟩
                  clear hb S19
                  obtain ⟨z0_, z1_, z2_⟩ := Box.c S20.out.2.2.2.2.2.1
                  have f0_ := Box.free S20.out.2.2.2.2.2.1 0
                  have f1_ := Box.free S20.out.2.2.2.2.2.1 1
                  have f2_ := Box.free S20.out.2.2.2.2.2.1 2
                  obtain ⟨w_21, hw_21⟩ : ∃ QZ, QZ = (((w_20.setCell ⟨HP, 0, none⟩ (.int .i64 x1c)).setCell ⟨HP, 1, none⟩ (.string y1c)).setCell ⟨HP, 2, none⟩ (.string z1c)) := ⟨_, rfl⟩
                  have S21 : Hid (Below w.heap.size w w_21 ∧ Box 24 w_21 HA n s r ∧ Box 24 w_21 HB m t q ∧ Box 24 w_21 HC c u v ∧ Box 24 w_21 HD d y z ∧ Box 24 w_21 HP x1c y1c z1c ∧ Box 24 w_21 HQ x2b y2b z2b) := by rw [hw_21]; exact ⟨Below.setCell (Below.setCell (Below.setCell S20.out.1 (by simp; omega) _) (by simp; omega) _) (by simp; omega) _, box_others S20.out.2.1 (by omega), box_others S20.out.2.2.1 (by omega), box_others S20.out.2.2.2.1 (by omega), box_others S20.out.2.2.2.2.1 (by omega), ((Box.set0 S20.out.2.2.2.2.2.1 x1c).set1 y1c).set2 z1c, box_others S20.out.2.2.2.2.2.2 (by omega)⟩
                  clear S20
                  go_upto_region 21 with (fail)
                  clear z0_ z1_ z2_ f0_ f1_ f2_
                  rw [← hw_21]
                  clear hw_21
                  obtain ⟨k0_0, k0_1, k0_2⟩ := Box.c S21.out.2.2.1
                  obtain ⟨k1_0, k1_1, k1_2⟩ := Box.c S21.out.2.2.2.2.1
                  go_wp2_with fail
                  clear k0_0 k0_1 k0_2 k1_0 k1_1 k1_2
                  refine (HC2.out _).mono ?_
                  rintro e w_22 ⟨rfl, hb⟩
                  have S22 : Hid (Below w.heap.size w w_22 ∧ Box 24 w_22 HA n s r ∧ Box 24 w_22 HB m t q ∧ Box 24 w_22 HC c u v ∧ Box 24 w_22 HD d y z ∧ Box 24 w_22 HP x1c y1c z1c ∧ Box 24 w_22 HQ x2b y2b z2b) := ⟨S21.out.1.trans (hb.mono S21.out.1.size), S21.out.2.1.below hb S21.out.2.1.lt, S21.out.2.2.1.below hb S21.out.2.2.1.lt, S21.out.2.2.2.1.below hb S21.out.2.2.2.1.lt, S21.out.2.2.2.2.1.below hb S21.out.2.2.2.2.1.lt, S21.out.2.2.2.2.2.1.below hb S21.out.2.2.2.2.2.1.lt, S21.out.2.2.2.2.2.2.below hb S21.out.2.2.2.2.2.2.lt⟩
                  clear hb S21
                  obtain ⟨z0_, z1_, z2_⟩ := Box.c S22.out.2.2.2.2.2.2
                  have f0_ := Box.free S22.out.2.2.2.2.2.2 0
                  have f1_ := Box.free S22.out.2.2.2.2.2.2 1
                  have f2_ := Box.free S22.out.2.2.2.2.2.2 2
                  obtain ⟨w_23, hw_23⟩ : ∃ QZ, QZ = (((w_22.setCell ⟨HQ, 0, none⟩ (.int .i64 x2c)).setCell ⟨HQ, 1, none⟩ (.string y2c)).setCell ⟨HQ, 2, none⟩ (.string z2c)) := ⟨_, rfl⟩
                  have S23 : Hid (Below w.heap.size w w_23 ∧ Box 24 w_23 HA n s r ∧ Box 24 w_23 HB m t q ∧ Box 24 w_23 HC c u v ∧ Box 24 w_23 HD d y z ∧ Box 24 w_23 HP x1c y1c z1c ∧ Box 24 w_23 HQ x2c y2c z2c) := by rw [hw_23]; exact ⟨Below.setCell (Below.setCell (Below.setCell S22.out.1 (by simp; omega) _) (by simp; omega) _) (by simp; omega) _, box_others S22.out.2.1 (by omega), box_others S22.out.2.2.1 (by omega), box_others S22.out.2.2.2.1 (by omega), box_others S22.out.2.2.2.2.1 (by omega), box_others S22.out.2.2.2.2.2.1 (by omega), ((Box.set0 S22.out.2.2.2.2.2.2 x2c).set1 y2c).set2 z2c⟩
                  clear S22
                  go_upto_region 22 with (fail)
                  clear z0_ z1_ z2_ f0_ f1_ f2_
                  rw [← hw_23]
                  clear hw_23
                  cases k1c
                  · go_wp2
                    go_ret
                    exact ⟨rfl, S23.out.1⟩
                  · cases k2c
                    · go_wp2
                      go_ret
                      exact ⟨rfl, S23.out.1⟩
                    · have hsw := HG.out (by simp) (by simp) (by simp)
                      obtain ⟨va, vb⟩ := swn_valid hsw
                      have HR := Lib.hid (fun W => rank_at (valid_small va).1 (valid_small va).2 (valid_small vb).1 (valid_small vb).2 true hsw W)
                      clear hsw va vb
                      obtain ⟨k0_0, k0_1, k0_2⟩ := Box.c S23.out.2.2.2.2.2.1
                      obtain ⟨k1_0, k1_1, k1_2⟩ := Box.c S23.out.2.2.2.2.2.2
                      go_wp2_with fail
                      clear k0_0 k0_1 k0_2 k1_0 k1_1 k1_2
                      refine (HR.out _).mono ?_
                      rintro e w_24 ⟨rfl, hb⟩
                      have S24 : Hid (Below w.heap.size w w_24 ∧ Box 24 w_24 HA n s r ∧ Box 24 w_24 HB m t q ∧ Box 24 w_24 HC c u v ∧ Box 24 w_24 HD d y z ∧ Box 24 w_24 HP x1c y1c z1c ∧ Box 24 w_24 HQ x2c y2c z2c) := ⟨S23.out.1.trans (hb.mono S23.out.1.size), S23.out.2.1.below hb S23.out.2.1.lt, S23.out.2.2.1.below hb S23.out.2.2.1.lt, S23.out.2.2.2.1.below hb S23.out.2.2.2.1.lt, S23.out.2.2.2.2.1.below hb S23.out.2.2.2.2.1.lt, S23.out.2.2.2.2.2.1.below hb S23.out.2.2.2.2.2.1.lt, S23.out.2.2.2.2.2.2.below hb S23.out.2.2.2.2.2.2.lt⟩
                      clear hb S23
                      go_wp2
                      go_ret
                      exact ⟨rfl, S24.out.1⟩
        · have S8 := HSC
          clear HSC
          obtain ⟨z0_, z1_, z2_⟩ := Box.c S8.out.2.2.2.2
          have f0_ := Box.free S8.out.2.2.2.2 0
          have f1_ := Box.free S8.out.2.2.2.2 1
          have f2_ := Box.free S8.out.2.2.2.2 2
          obtain ⟨k0_0, k0_1, k0_2⟩ := Box.c S8.out.2.2.2.1
          obtain ⟨w_9, hw_9⟩ : ∃ QZ, QZ = (((wc.setCell ⟨HD, 0, none⟩ (.int .i64 c)).setCell ⟨HD, 1, none⟩ (.string u)).setCell ⟨HD, 2, none⟩ (.string v)) := ⟨_, rfl⟩
          have S9 : Hid (Below w.heap.size w w_9 ∧ Box 24 w_9 HA n s r ∧ Box 24 w_9 HB m t q ∧ Box 24 w_9 HC c u v ∧ Box 24 w_9 HD c u v) := by rw [hw_9]; exact ⟨Below.setCell (Below.setCell (Below.setCell S8.out.1 (by simp; omega) _) (by simp; omega) _) (by simp; omega) _, box_others S8.out.2.1 (by omega), box_others S8.out.2.2.1 (by omega), box_others S8.out.2.2.2.1 (by omega), ((Box.set0 S8.out.2.2.2.2 c).set1 u).set2 v⟩
          clear S8
          go_upto_region 10 with (fail)
          clear z0_ z1_ z2_ f0_ f1_ f2_ k0_0 k0_1 k0_2
          rw [← hw_9]
          clear hw_9
          cases hvc : validB c u v with
          | false =>
            have HVC := Lib.hid (fun W => valid_at (n := c) hu hv false hvc W)
            clear hvc
            obtain ⟨k0_0, k0_1, k0_2⟩ := Box.c S9.out.2.2.2.1
            go_wp2_with fail
            clear k0_0 k0_1 k0_2
            refine (HVC.out _).mono ?_
            rintro e w_10 ⟨rfl, hb⟩
            have S10 : Hid (Below w.heap.size w w_10 ∧ Box 24 w_10 HA n s r ∧ Box 24 w_10 HB m t q ∧ Box 24 w_10 HC c u v ∧ Box 24 w_10 HD c u v) := ⟨S9.out.1.trans (hb.mono S9.out.1.size), S9.out.2.1.below hb S9.out.2.1.lt, S9.out.2.2.1.below hb S9.out.2.2.1.lt, S9.out.2.2.2.1.below hb S9.out.2.2.2.1.lt, S9.out.2.2.2.2.below hb S9.out.2.2.2.2.lt⟩
            clear hb S9
            go_wp2
            go_ret
            exact ⟨rfl, S10.out.1⟩
          | true =>
            have HVC := Lib.hid (fun W => valid_at (n := c) hu hv true hvc W)
            have HDW : Hid (swnB c u v [] c u v [] x = true) := self_wins hvc (by omega) (by omega)
            clear hvc
            obtain ⟨k0_0, k0_1, k0_2⟩ := Box.c S9.out.2.2.2.1
            go_wp2_with fail
            clear k0_0 k0_1 k0_2
            refine (HVC.out _).mono ?_
            rintro e w_10 ⟨rfl, hb⟩
            have S10 : Hid (Below w.heap.size w w_10 ∧ Box 24 w_10 HA n s r ∧ Box 24 w_10 HB m t q ∧ Box 24 w_10 HC c u v ∧ Box 24 w_10 HD c u v) := ⟨S9.out.1.trans (hb.mono S9.out.1.size), S9.out.2.1.below hb S9.out.2.1.lt, S9.out.2.2.1.below hb S9.out.2.2.1.lt, S9.out.2.2.2.1.below hb S9.out.2.2.2.1.lt, S9.out.2.2.2.2.below hb S9.out.2.2.2.2.lt⟩
            clear hb S9
            go_upto_region 12 with (fail)
            cases is
            · obtain ⟨x1a, y1a, z1a, k1a, x2a, y2a, z2a, k2a, hc1, hc2, hg⟩ := pair_dis HIS.out HDW.out hs hr ht hq hu hv hu hv
              have HC1 := Lib.hid hc1
              have HC2 := Lib.hid hc2
              have HG := Lib.hid hg
              clear hc1 hc2 hg
              obtain ⟨k0_0, k0_1, k0_2⟩ := Box.c S10.out.2.1
              obtain ⟨k1_0, k1_1, k1_2⟩ := Box.c S10.out.2.2.2.1
              go_wp2_with fail
              clear k0_0 k0_1 k0_2 k1_0 k1_1 k1_2
              refine (HC1.out _).mono ?_
              rintro e w_11 ⟨rfl, hb⟩
              have S11 : Hid (Below w.heap.size w w_11 ∧ Box 24 w_11 HA n s r ∧ Box 24 w_11 HB m t q ∧ Box 24 w_11 HC c u v ∧ Box 24 w_11 HD c u v) := ⟨S10.out.1.trans (hb.mono S10.out.1.size), S10.out.2.1.below hb S10.out.2.1.lt, S10.out.2.2.1.below hb S10.out.2.2.1.lt, S10.out.2.2.2.1.below hb S10.out.2.2.2.1.lt, S10.out.2.2.2.2.below hb S10.out.2.2.2.2.lt⟩
              clear hb S10
              obtain ⟨w_12, hw_12⟩ : ∃ QZ, QZ = (w_11.alloc (.cells #[.int .i64 x1a, .string y1a, .string z1a] 24)) := ⟨_, rfl⟩
              obtain ⟨HP, hHP⟩ : ∃ QZ, QZ = w_11.heap.size := ⟨_, rfl⟩
              have lHP : HD < HP := by rw [hHP]; exact S11.out.2.2.2.2.lt
              have zHP : w.heap.size ≤ HP := by rw [hHP]; exact S11.out.1.size
              have S12 : Hid (Below w.heap.size w w_12 ∧ Box 24 w_12 HA n s r ∧ Box 24 w_12 HB m t q ∧ Box 24 w_12 HC c u v ∧ Box 24 w_12 HD c u v ∧ Box 24 w_12 HP x1a y1a z1a) := by rw [hw_12]; exact ⟨(S11.out.1).alloc (S11.out.1.size) _, S11.out.2.1.below ((Below.refl w_11.heap.size w_11).alloc (by simp) _) S11.out.2.1.lt, S11.out.2.2.1.below ((Below.refl w_11.heap.size w_11).alloc (by simp) _) S11.out.2.2.1.lt, S11.out.2.2.2.1.below ((Below.refl w_11.heap.size w_11).alloc (by simp) _) S11.out.2.2.2.1.lt, S11.out.2.2.2.2.below ((Below.refl w_11.heap.size w_11).alloc (by simp) _) S11.out.2.2.2.2.lt, (Box.new 24 w_11 HP (by first | (rw [hHP]; done) | (rw [hHP]; simp)) x1a y1a z1a)⟩
              clear S11
              go_upto_region 13 with (fail)
              rw [← hw_12]
              rw [← hHP]
              clear hw_12 hHP
              obtain ⟨k0_0, k0_1, k0_2⟩ := Box.c S12.out.2.2.1
              obtain ⟨k1_0, k1_1, k1_2⟩ := Box.c S12.out.2.2.2.2.1
              go_wp2_with fail
              clear k0_0 k0_1 k0_2 k1_0 k1_1 k1_2
              refine (HC2.out _).mono ?_
              rintro e w_13 ⟨rfl, hb⟩
              have S13 : Hid (Below w.heap.size w w_13 ∧ Box 24 w_13 HA n s r ∧ Box 24 w_13 HB m t q ∧ Box 24 w_13 HC c u v ∧ Box 24 w_13 HD c u v ∧ Box 24 w_13 HP x1a y1a z1a) := ⟨S12.out.1.trans (hb.mono S12.out.1.size), S12.out.2.1.below hb S12.out.2.1.lt, S12.out.2.2.1.below hb S12.out.2.2.1.lt, S12.out.2.2.2.1.below hb S12.out.2.2.2.1.lt, S12.out.2.2.2.2.1.below hb S12.out.2.2.2.2.1.lt, S12.out.2.2.2.2.2.below hb S12.out.2.2.2.2.2.lt⟩
              clear hb S12
              obtain ⟨w_14, hw_14⟩ : ∃ QZ, QZ = (w_13.alloc (.cells #[.int .i64 x2a, .string y2a, .string z2a] 24)) := ⟨_, rfl⟩
              obtain ⟨HQ, hHQ⟩ : ∃ QZ, QZ = w_13.heap.size := ⟨_, rfl⟩
              have lHQ : HP < HQ := by rw [hHQ]; exact S13.out.2.2.2.2.2.lt
              have zHQ : w.heap.size ≤ HQ := by rw [hHQ]; exact S13.out.1.size
              have S14 : Hid (Below w.heap.size w w_14 ∧ Box 24 w_14 HA n s r ∧ Box 24 w_14 HB m t q ∧ Box 24 w_14 HC c u v ∧ Box 24 w_14 HD c u v ∧ Box 24 w_14 HP x1a y1a z1a ∧ Box 24 w_14 HQ x2a y2a z2a) := by rw [hw_14]; exact ⟨(S13.out.1).alloc (S13.out.1.size) _, S13.out.2.1.below ((Below.refl w_13.heap.size w_13).alloc (by simp) _) S13.out.2.1.lt, S13.out.2.2.1.below ((Below.refl w_13.heap.size w_13).alloc (by simp) _) S13.out.2.2.1.lt, S13.out.2.2.2.1.below ((Below.refl w_13.heap.size w_13).alloc (by simp) _) S13.out.2.2.2.1.lt, S13.out.2.2.2.2.1.below ((Below.refl w_13.heap.size w_13).alloc (by simp) _) S13.out.2.2.2.2.1.lt, S13.out.2.2.2.2.2.below ((Below.refl w_13.heap.size w_13).alloc (by simp) _) S13.out.2.2.2.2.2.lt, (Box.new 24 w_13 HQ (by first | (rw [hHQ]; done) | (rw [hHQ]; simp)) x2a y2a z2a)⟩
              clear S13
              go_upto_region 14 with (fail)
              rw [← hw_14]
              rw [← hHQ]
              clear hw_14 hHQ
              obtain ⟨x1b, y1b, z1b, k1b, x2b, y2b, z2b, k2b, hc1, hc2, hg⟩ := pair_ord HIS.out HDW.out hs hr ht hq hu hv hu hv
              have HC1 := Lib.hid hc1
              have HC2 := Lib.hid hc2
              have HG := Lib.hid hg
              clear hc1 hc2 hg
              obtain ⟨k0_0, k0_1, k0_2⟩ := Box.c S14.out.2.1
              obtain ⟨k1_0, k1_1, k1_2⟩ := Box.c S14.out.2.2.2.1
              go_wp2_with fail
              clear k0_0 k0_1 k0_2 k1_0 k1_1 k1_2
              refine (HC1.out _).mono ?_
              rintro e w_15 ⟨rfl, hb⟩
              have S15 : Hid (Below w.heap.size w w_15 ∧ Box 24 w_15 HA n s r ∧ Box 24 w_15 HB m t q ∧ Box 24 w_15 HC c u v ∧ Box 24 w_15 HD c u v ∧ Box 24 w_15 HP x1a y1a z1a ∧ Box 24 w_15 HQ x2a y2a z2a) := ⟨S14.out.1.trans (hb.mono S14.out.1.size), S14.out.2.1.below hb S14.out.2.1.lt, S14.out.2.2.1.below hb S14.out.2.2.1.lt, S14.out.2.2.2.1.below hb S14.out.2.2.2.1.lt, S14.out.2.2.2.2.1.below hb S14.out.2.2.2.2.1.lt, S14.out.2.2.2.2.2.1.below hb S14.out.2.2.2.2.2.1.lt, S14.out.2.2.2.2.2.2.below hb S14.out.2.2.2.2.2.2.lt⟩
              clear hb S14
              obtain ⟨z0_, z1_, z2_⟩ := Box.c S15.out.2.2.2.2.2.1
              have f0_ := Box.free S15.out.2.2.2.2.2.1 0
              have f1_ := Box.free S15.out.2.2.2.2.2.1 1
              have f2_ := Box.free S15.out.2.2.2.2.2.1 2
              obtain ⟨w_16, hw_16⟩ : ∃ QZ, QZ = (((w_15.setCell ⟨HP, 0, none⟩ (.int .i64 x1b)).setCell ⟨HP, 1, none⟩ (.string y1b)).setCell ⟨HP, 2, none⟩ (.string z1b)) := ⟨_, rfl⟩
              have S16 : Hid (Below w.heap.size w w_16 ∧ Box 24 w_16 HA n s r ∧ Box 24 w_16 HB m t q ∧ Box 24 w_16 HC c u v ∧ Box 24 w_16 HD c u v ∧ Box 24 w_16 HP x1b y1b z1b ∧ Box 24 w_16 HQ x2a y2a z2a) := by rw [hw_16]; exact ⟨Below.setCell (Below.setCell (Below.setCell S15.out.1 (by simp; omega) _) (by simp; omega) _) (by simp; omega) _, box_others S15.out.2.1 (by omega), box_others S15.out.2.2.1 (by omega), box_others S15.out.2.2.2.1 (by omega), box_others S15.out.2.2.2.2.1 (by omega), ((Box.set0 S15.out.2.2.2.2.2.1 x1b).set1 y1b).set2 z1b, box_others S15.out.2.2.2.2.2.2 (by omega)⟩
              clear S15
              go_upto_region 17 with (fail)
              clear z0_ z1_ z2_ f0_ f1_ f2_
              rw [← hw_16]
              clear hw_16
              obtain ⟨k0_0, k0_1, k0_2⟩ := Box.c S16.out.2.2.1
              obtain ⟨k1_0, k1_1, k1_2⟩ := Box.c S16.out.2.2.2.2.1
              go_wp2_with fail
              clear k0_0 k0_1 k0_2 k1_0 k1_1 k1_2
              refine (HC2.out _).mono ?_
              rintro e w_17 ⟨rfl, hb⟩
              have S17 : Hid (Below w.heap.size w w_17 ∧ Box 24 w_17 HA n s r ∧ Box 24 w_17 HB m t q ∧ Box 24 w_17 HC c u v ∧ Box 24 w_17 HD c u v ∧ Box 24 w_17 HP x1b y1b z1b ∧ Box 24 w_17 HQ x2a y2a z2a) := ⟨S16.out.1.trans (hb.mono S16.out.1.size), S16.out.2.1.below hb S16.out.2.1.lt, S16.out.2.2.1.below hb S16.out.2.2.1.lt, S16.out.2.2.2.1.below hb S16.out.2.2.2.1.lt, S16.out.2.2.2.2.1.below hb S16.out.2.2.2.2.1.lt, S16.out.2.2.2.2.2.1.below hb S16.out.2.2.2.2.2.1.lt, S16.out.2.2.2.2.2.2.below hb S16.out.2.2.2.2.2.2.lt⟩
              clear hb S16
              obtain ⟨z0_, z1_, z2_⟩ := Box.c S17.out.2.2.2.2.2.2
              have f0_ := Box.free S17.out.2.2.2.2.2.2 0
              have f1_ := Box.free S17.out.2.2.2.2.2.2 1
              have f2_ := Box.free S17.out.2.2.2.2.2.2 2
              obtain ⟨w_18, hw_18⟩ : ∃ QZ, QZ = (((w_17.setCell ⟨HQ, 0, none⟩ (.int .i64 x2b)).setCell ⟨HQ, 1, none⟩ (.string y2b)).setCell ⟨HQ, 2, none⟩ (.string z2b)) := ⟨_, rfl⟩
              have S18 : Hid (Below w.heap.size w w_18 ∧ Box 24 w_18 HA n s r ∧ Box 24 w_18 HB m t q ∧ Box 24 w_18 HC c u v ∧ Box 24 w_18 HD c u v ∧ Box 24 w_18 HP x1b y1b z1b ∧ Box 24 w_18 HQ x2b y2b z2b) := by rw [hw_18]; exact ⟨Below.setCell (Below.setCell (Below.setCell S17.out.1 (by simp; omega) _) (by simp; omega) _) (by simp; omega) _, box_others S17.out.2.1 (by omega), box_others S17.out.2.2.1 (by omega), box_others S17.out.2.2.2.1 (by omega), box_others S17.out.2.2.2.2.1 (by omega), box_others S17.out.2.2.2.2.2.1 (by omega), ((Box.set0 S17.out.2.2.2.2.2.2 x2b).set1 y2b).set2 z2b⟩
              clear S17
              go_upto_region 18 with (fail)
              clear z0_ z1_ z2_ f0_ f1_ f2_
              rw [← hw_18]
              clear hw_18
              obtain ⟨x1c, y1c, z1c, k1c, x2c, y2c, z2c, k2c, hc1, hc2, hg⟩ := pair_prod HIS.out HDW.out hs hr ht hq hu hv hu hv
              have HC1 := Lib.hid hc1
              have HC2 := Lib.hid hc2
              have HG := Lib.hid hg
              clear hc1 hc2 hg
              obtain ⟨k0_0, k0_1, k0_2⟩ := Box.c S18.out.2.1
              obtain ⟨k1_0, k1_1, k1_2⟩ := Box.c S18.out.2.2.2.1
              go_wp2_with fail
              clear k0_0 k0_1 k0_2 k1_0 k1_1 k1_2
              refine (HC1.out _).mono ?_
              rintro e w_19 ⟨rfl, hb⟩
              have S19 : Hid (Below w.heap.size w w_19 ∧ Box 24 w_19 HA n s r ∧ Box 24 w_19 HB m t q ∧ Box 24 w_19 HC c u v ∧ Box 24 w_19 HD c u v ∧ Box 24 w_19 HP x1b y1b z1b ∧ Box 24 w_19 HQ x2b y2b z2b) := ⟨S18.out.1.trans (hb.mono S18.out.1.size), S18.out.2.1.below hb S18.out.2.1.lt, S18.out.2.2.1.below hb S18.out.2.2.1.lt, S18.out.2.2.2.1.below hb S18.out.2.2.2.1.lt, S18.out.2.2.2.2.1.below hb S18.out.2.2.2.2.1.lt, S18.out.2.2.2.2.2.1.below hb S18.out.2.2.2.2.2.1.lt, S18.out.2.2.2.2.2.2.below hb S18.out.2.2.2.2.2.2.lt⟩
              clear hb S18
              obtain ⟨z0_, z1_, z2_⟩ := Box.c S19.out.2.2.2.2.2.1
              have f0_ := Box.free S19.out.2.2.2.2.2.1 0
              have f1_ := Box.free S19.out.2.2.2.2.2.1 1
              have f2_ := Box.free S19.out.2.2.2.2.2.1 2
              obtain ⟨w_20, hw_20⟩ : ∃ QZ, QZ = (((w_19.setCell ⟨HP, 0, none⟩ (.int .i64 x1c)).setCell ⟨HP, 1, none⟩ (.string y1c)).setCell ⟨HP, 2, none⟩ (.string z1c)) := ⟨_, rfl⟩
              have S20 : Hid (Below w.heap.size w w_20 ∧ Box 24 w_20 HA n s r ∧ Box 24 w_20 HB m t q ∧ Box 24 w_20 HC c u v ∧ Box 24 w_20 HD c u v ∧ Box 24 w_20 HP x1c y1c z1c ∧ Box 24 w_20 HQ x2b y2b z2b) := by rw [hw_20]; exact ⟨Below.setCell (Below.setCell (Below.setCell S19.out.1 (by simp; omega) _) (by simp; omega) _) (by simp; omega) _, box_others S19.out.2.1 (by omega), box_others S19.out.2.2.1 (by omega), box_others S19.out.2.2.2.1 (by omega), box_others S19.out.2.2.2.2.1 (by omega), ((Box.set0 S19.out.2.2.2.2.2.1 x1c).set1 y1c).set2 z1c, box_others S19.out.2.2.2.2.2.2 (by omega)⟩
              clear S19
              go_upto_region 21 with (fail)
              clear z0_ z1_ z2_ f0_ f1_ f2_
              rw [← hw_20]
              clear hw_20
              obtain ⟨k0_0, k0_1, k0_2⟩ := Box.c S20.out.2.2.1
              obtain ⟨k1_0, k1_1, k1_2⟩ := Box.c S20.out.2.2.2.2.1
              go_wp2_with fail
              clear k0_0 k0_1 k0_2 k1_0 k1_1 k1_2
              refine (HC2.out _).mono ?_
              rintro e w_21 ⟨rfl, hb⟩
              have S21 : Hid (Below w.heap.size w w_21 ∧ Box 24 w_21 HA n s r ∧ Box 24 w_21 HB m t q ∧ Box 24 w_21 HC c u v ∧ Box 24 w_21 HD c u v ∧ Box 24 w_21 HP x1c y1c z1c ∧ Box 24 w_21 HQ x2b y2b z2b) := ⟨S20.out.1.trans (hb.mono S20.out.1.size), S20.out.2.1.below hb S20.out.2.1.lt, S20.out.2.2.1.below hb S20.out.2.2.1.lt, S20.out.2.2.2.1.below hb S20.out.2.2.2.1.lt, S20.out.2.2.2.2.1.below hb S20.out.2.2.2.2.1.lt, S20.out.2.2.2.2.2.1.below hb S20.out.2.2.2.2.2.1.lt, S20.out.2.2.2.2.2.2.below hb S20.out.2.2.2.2.2.2.lt⟩
              clear hb S20
              obtain ⟨z0_, z1_, z2_⟩ := Box.c S21.out.2.2.2.2.2.2
              have f0_ := Box.free S21.out.2.2.2.2.2.2 0
              have f1_ := Box.free S21.out.2.2.2.2.2.2 1
              have f2_ := Box.free S21.out.2.2.2.2.2.2 2
              obtain ⟨w_22, hw_22⟩ : ∃ QZ, QZ = (((w_21.setCell ⟨HQ, 0, none⟩ (.int .i64 x2c)).setCell ⟨HQ, 1, none⟩ (.string y2c)).setCell ⟨HQ, 2, none⟩ (.string z2c)) := ⟨_, rfl⟩
              have S22 : Hid (Below w.heap.size w w_22 ∧ Box 24 w_22 HA n s r ∧ Box 24 w_22 HB m t q ∧ Box 24 w_22 HC c u v ∧ Box 24 w_22 HD c u v ∧ Box 24 w_22 HP x1c y1c z1c ∧ Box 24 w_22 HQ x2c y2c z2c) := by rw [hw_22]; exact ⟨Below.setCell (Below.setCell (Below.setCell S21.out.1 (by simp; omega) _) (by simp; omega) _) (by simp; omega) _, box_others S21.out.2.1 (by omega), box_others S21.out.2.2.1 (by omega), box_others S21.out.2.2.2.1 (by omega), box_others S21.out.2.2.2.2.1 (by omega), box_others S21.out.2.2.2.2.2.1 (by omega), ((Box.set0 S21.out.2.2.2.2.2.2 x2c).set1 y2c).set2 z2c⟩
              clear S21
              go_upto_region 22 with (fail)
              clear z0_ z1_ z2_ f0_ f1_ f2_
              rw [← hw_22]
              clear hw_22
              go_wp2
              go_ret
              exact ⟨rfl, S22.out.1⟩
            · obtain ⟨x1a, y1a, z1a, k1a, x2a, y2a, z2a, k2a, hc1, hc2, hg⟩ := pair_dis HIS.out HDW.out hs hr ht hq hu hv hu hv
              have HC1 := Lib.hid hc1
              have HC2 := Lib.hid hc2
              have HG := Lib.hid hg
              clear hc1 hc2 hg
              obtain ⟨k0_0, k0_1, k0_2⟩ := Box.c S10.out.2.1
              obtain ⟨k1_0, k1_1, k1_2⟩ := Box.c S10.out.2.2.2.1
              go_wp2_with fail
              clear k0_0 k0_1 k0_2 k1_0 k1_1 k1_2
              refine (HC1.out _).mono ?_
              rintro e w_11 ⟨rfl, hb⟩
              have S11 : Hid (Below w.heap.size w w_11 ∧ Box 24 w_11 HA n s r ∧ Box 24 w_11 HB m t q ∧ Box 24 w_11 HC c u v ∧ Box 24 w_11 HD c u v) := ⟨S10.out.1.trans (hb.mono S10.out.1.size), S10.out.2.1.below hb S10.out.2.1.lt, S10.out.2.2.1.below hb S10.out.2.2.1.lt, S10.out.2.2.2.1.below hb S10.out.2.2.2.1.lt, S10.out.2.2.2.2.below hb S10.out.2.2.2.2.lt⟩
              clear hb S10
              obtain ⟨w_12, hw_12⟩ : ∃ QZ, QZ = (w_11.alloc (.cells #[.int .i64 x1a, .string y1a, .string z1a] 24)) := ⟨_, rfl⟩
              obtain ⟨HP, hHP⟩ : ∃ QZ, QZ = w_11.heap.size := ⟨_, rfl⟩
              have lHP : HD < HP := by rw [hHP]; exact S11.out.2.2.2.2.lt
              have zHP : w.heap.size ≤ HP := by rw [hHP]; exact S11.out.1.size
              have S12 : Hid (Below w.heap.size w w_12 ∧ Box 24 w_12 HA n s r ∧ Box 24 w_12 HB m t q ∧ Box 24 w_12 HC c u v ∧ Box 24 w_12 HD c u v ∧ Box 24 w_12 HP x1a y1a z1a) := by rw [hw_12]; exact ⟨(S11.out.1).alloc (S11.out.1.size) _, S11.out.2.1.below ((Below.refl w_11.heap.size w_11).alloc (by simp) _) S11.out.2.1.lt, S11.out.2.2.1.below ((Below.refl w_11.heap.size w_11).alloc (by simp) _) S11.out.2.2.1.lt, S11.out.2.2.2.1.below ((Below.refl w_11.heap.size w_11).alloc (by simp) _) S11.out.2.2.2.1.lt, S11.out.2.2.2.2.below ((Below.refl w_11.heap.size w_11).alloc (by simp) _) S11.out.2.2.2.2.lt, (Box.new 24 w_11 HP (by first | (rw [hHP]; done) | (rw [hHP]; simp)) x1a y1a z1a)⟩
              clear S11
              go_upto_region 13 with (fail)
              rw [← hw_12]
              rw [← hHP]
              clear hw_12 hHP
              obtain ⟨k0_0, k0_1, k0_2⟩ := Box.c S12.out.2.2.1
              obtain ⟨k1_0, k1_1, k1_2⟩ := Box.c S12.out.2.2.2.2.1
              go_wp2_with fail
              clear k0_0 k0_1 k0_2 k1_0 k1_1 k1_2
              refine (HC2.out _).mono ?_
              rintro e w_13 ⟨rfl, hb⟩
              have S13 : Hid (Below w.heap.size w w_13 ∧ Box 24 w_13 HA n s r ∧ Box 24 w_13 HB m t q ∧ Box 24 w_13 HC c u v ∧ Box 24 w_13 HD c u v ∧ Box 24 w_13 HP x1a y1a z1a) := ⟨S12.out.1.trans (hb.mono S12.out.1.size), S12.out.2.1.below hb S12.out.2.1.lt, S12.out.2.2.1.below hb S12.out.2.2.1.lt, S12.out.2.2.2.1.below hb S12.out.2.2.2.1.lt, S12.out.2.2.2.2.1.below hb S12.out.2.2.2.2.1.lt, S12.out.2.2.2.2.2.below hb S12.out.2.2.2.2.2.lt⟩
              clear hb S12
              obtain ⟨w_14, hw_14⟩ : ∃ QZ, QZ = (w_13.alloc (.cells #[.int .i64 x2a, .string y2a, .string z2a] 24)) := ⟨_, rfl⟩
              obtain ⟨HQ, hHQ⟩ : ∃ QZ, QZ = w_13.heap.size := ⟨_, rfl⟩
              have lHQ : HP < HQ := by rw [hHQ]; exact S13.out.2.2.2.2.2.lt
              have zHQ : w.heap.size ≤ HQ := by rw [hHQ]; exact S13.out.1.size
              have S14 : Hid (Below w.heap.size w w_14 ∧ Box 24 w_14 HA n s r ∧ Box 24 w_14 HB m t q ∧ Box 24 w_14 HC c u v ∧ Box 24 w_14 HD c u v ∧ Box 24 w_14 HP x1a y1a z1a ∧ Box 24 w_14 HQ x2a y2a z2a) := by rw [hw_14]; exact ⟨(S13.out.1).alloc (S13.out.1.size) _, S13.out.2.1.below ((Below.refl w_13.heap.size w_13).alloc (by simp) _) S13.out.2.1.lt, S13.out.2.2.1.below ((Below.refl w_13.heap.size w_13).alloc (by simp) _) S13.out.2.2.1.lt, S13.out.2.2.2.1.below ((Below.refl w_13.heap.size w_13).alloc (by simp) _) S13.out.2.2.2.1.lt, S13.out.2.2.2.2.1.below ((Below.refl w_13.heap.size w_13).alloc (by simp) _) S13.out.2.2.2.2.1.lt, S13.out.2.2.2.2.2.below ((Below.refl w_13.heap.size w_13).alloc (by simp) _) S13.out.2.2.2.2.2.lt, (Box.new 24 w_13 HQ (by first | (rw [hHQ]; done) | (rw [hHQ]; simp)) x2a y2a z2a)⟩
              clear S13
              go_upto_region 14 with (fail)
              rw [← hw_14]
              rw [← hHQ]
              clear hw_14 hHQ
              go_cut [112] from 99 to 112 (fun tt wx => tt = .bool false ∧ Hid (Below w.heap.size w wx ∧ Box 24 wx HA n s r ∧ Box 24 wx HB m t q ∧ Box 24 wx HC c u v ∧ Box 24 wx HD c u v ∧ Box 24 wx HP x1a y1a z1a ∧ Box 24 wx HQ x2a y2a z2a))
              case first =>
                cases k1a
                · go_wp2
                  go_meet
                  exact ⟨rfl, S14.out⟩
                · cases k2a
                  · go_wp2
                    go_meet
                    exact ⟨rfl, S14.out⟩
                  · have hsw := HG.out (by simp) (by simp) (by simp)
                    obtain ⟨va, vb⟩ := swn_valid hsw
                    have HR := Lib.hid (fun W => rank_at (valid_small va).1 (valid_small va).2 (valid_small vb).1 (valid_small vb).2 true hsw W)
                    clear hsw va vb
                    obtain ⟨k0_0, k0_1, k0_2⟩ := Box.c S14.out.2.2.2.2.2.1
                    obtain ⟨k1_0, k1_1, k1_2⟩ := Box.c S14.out.2.2.2.2.2.2
                    go_wp2_with fail
                    clear k0_0 k0_1 k0_2 k1_0 k1_1 k1_2
                    refine (HR.out _).mono ?_
                    rintro e w_15 ⟨rfl, hb⟩
                    have S15 : Hid (Below w.heap.size w w_15 ∧ Box 24 w_15 HA n s r ∧ Box 24 w_15 HB m t q ∧ Box 24 w_15 HC c u v ∧ Box 24 w_15 HD c u v ∧ Box 24 w_15 HP x1a y1a z1a ∧ Box 24 w_15 HQ x2a y2a z2a) := ⟨S14.out.1.trans (hb.mono S14.out.1.size), S14.out.2.1.below hb S14.out.2.1.lt, S14.out.2.2.1.below hb S14.out.2.2.1.lt, S14.out.2.2.2.1.below hb S14.out.2.2.2.1.lt, S14.out.2.2.2.2.1.below hb S14.out.2.2.2.2.1.lt, S14.out.2.2.2.2.2.1.below hb S14.out.2.2.2.2.2.1.lt, S14.out.2.2.2.2.2.2.below hb S14.out.2.2.2.2.2.2.lt⟩
                    clear hb S14
                    go_wp2
                    go_meet
                    exact ⟨rfl, S15.out⟩
              case rest =>
                obtain ⟨rfl, HSC⟩ := hcut
                clear S14
                have S15 := HSC
                clear HSC
                obtain ⟨x1b, y1b, z1b, k1b, x2b, y2b, z2b, k2b, hc1, hc2, hg⟩ := pair_ord HIS.out HDW.out hs hr ht hq hu hv hu hv
                have HC1 := Lib.hid hc1
                have HC2 := Lib.hid hc2
                have HG := Lib.hid hg
                clear hc1 hc2 hg
                obtain ⟨k0_0, k0_1, k0_2⟩ := Box.c S15.out.2.1
                obtain ⟨k1_0, k1_1, k1_2⟩ := Box.c S15.out.2.2.2.1
                go_wp2_with fail
                clear k0_0 k0_1 k0_2 k1_0 k1_1 k1_2
                refine (HC1.out _).mono ?_
                rintro e w_16 ⟨rfl, hb⟩
                have S16 : Hid (Below w.heap.size w w_16 ∧ Box 24 w_16 HA n s r ∧ Box 24 w_16 HB m t q ∧ Box 24 w_16 HC c u v ∧ Box 24 w_16 HD c u v ∧ Box 24 w_16 HP x1a y1a z1a ∧ Box 24 w_16 HQ x2a y2a z2a) := ⟨S15.out.1.trans (hb.mono S15.out.1.size), S15.out.2.1.below hb S15.out.2.1.lt, S15.out.2.2.1.below hb S15.out.2.2.1.lt, S15.out.2.2.2.1.below hb S15.out.2.2.2.1.lt, S15.out.2.2.2.2.1.below hb S15.out.2.2.2.2.1.lt, S15.out.2.2.2.2.2.1.below hb S15.out.2.2.2.2.2.1.lt, S15.out.2.2.2.2.2.2.below hb S15.out.2.2.2.2.2.2.lt⟩
                clear hb S15
                obtain ⟨z0_, z1_, z2_⟩ := Box.c S16.out.2.2.2.2.2.1
                have f0_ := Box.free S16.out.2.2.2.2.2.1 0
                have f1_ := Box.free S16.out.2.2.2.2.2.1 1
                have f2_ := Box.free S16.out.2.2.2.2.2.1 2
                obtain ⟨w_17, hw_17⟩ : ∃ QZ, QZ = (((w_16.setCell ⟨HP, 0, none⟩ (.int .i64 x1b)).setCell ⟨HP, 1, none⟩ (.string y1b)).setCell ⟨HP, 2, none⟩ (.string z1b)) := ⟨_, rfl⟩
                have S17 : Hid (Below w.heap.size w w_17 ∧ Box 24 w_17 HA n s r ∧ Box 24 w_17 HB m t q ∧ Box 24 w_17 HC c u v ∧ Box 24 w_17 HD c u v ∧ Box 24 w_17 HP x1b y1b z1b ∧ Box 24 w_17 HQ x2a y2a z2a) := by rw [hw_17]; exact ⟨Below.setCell (Below.setCell (Below.setCell S16.out.1 (by simp; omega) _) (by simp; omega) _) (by simp; omega) _, box_others S16.out.2.1 (by omega), box_others S16.out.2.2.1 (by omega), box_others S16.out.2.2.2.1 (by omega), box_others S16.out.2.2.2.2.1 (by omega), ((Box.set0 S16.out.2.2.2.2.2.1 x1b).set1 y1b).set2 z1b, box_others S16.out.2.2.2.2.2.2 (by omega)⟩
                clear S16
                go_upto_region 17 with (fail)
                clear z0_ z1_ z2_ f0_ f1_ f2_
                rw [← hw_17]
                clear hw_17
                obtain ⟨k0_0, k0_1, k0_2⟩ := Box.c S17.out.2.2.1
                obtain ⟨k1_0, k1_1, k1_2⟩ := Box.c S17.out.2.2.2.2.1
                go_wp2_with fail
                clear k0_0 k0_1 k0_2 k1_0 k1_1 k1_2
                refine (HC2.out _).mono ?_
                rintro e w_18 ⟨rfl, hb⟩
                have S18 : Hid (Below w.heap.size w w_18 ∧ Box 24 w_18 HA n s r ∧ Box 24 w_18 HB m t q ∧ Box 24 w_18 HC c u v ∧ Box 24 w_18 HD c u v ∧ Box 24 w_18 HP x1b y1b z1b ∧ Box 24 w_18 HQ x2a y2a z2a) := ⟨S17.out.1.trans (hb.mono S17.out.1.size), S17.out.2.1.below hb S17.out.2.1.lt, S17.out.2.2.1.below hb S17.out.2.2.1.lt, S17.out.2.2.2.1.below hb S17.out.2.2.2.1.lt, S17.out.2.2.2.2.1.below hb S17.out.2.2.2.2.1.lt, S17.out.2.2.2.2.2.1.below hb S17.out.2.2.2.2.2.1.lt, S17.out.2.2.2.2.2.2.below hb S17.out.2.2.2.2.2.2.lt⟩
                clear hb S17
                obtain ⟨z0_, z1_, z2_⟩ := Box.c S18.out.2.2.2.2.2.2
                have f0_ := Box.free S18.out.2.2.2.2.2.2 0
                have f1_ := Box.free S18.out.2.2.2.2.2.2 1
                have f2_ := Box.free S18.out.2.2.2.2.2.2 2
                obtain ⟨w_19, hw_19⟩ : ∃ QZ, QZ = (((w_18.setCell ⟨HQ, 0, none⟩ (.int .i64 x2b)).setCell ⟨HQ, 1, none⟩ (.string y2b)).setCell ⟨HQ, 2, none⟩ (.string z2b)) := ⟨_, rfl⟩
                have S19 : Hid (Below w.heap.size w w_19 ∧ Box 24 w_19 HA n s r ∧ Box 24 w_19 HB m t q ∧ Box 24 w_19 HC c u v ∧ Box 24 w_19 HD c u v ∧ Box 24 w_19 HP x1b y1b z1b ∧ Box 24 w_19 HQ x2b y2b z2b) := by rw [hw_19]; exact ⟨Below.setCell (Below.setCell (Below.setCell S18.out.1 (by simp; omega) _) (by simp; omega) _) (by simp; omega) _, box_others S18.out.2.1 (by omega), box_others S18.out.2.2.1 (by omega), box_others S18.out.2.2.2.1 (by omega), box_others S18.out.2.2.2.2.1 (by omega), box_others S18.out.2.2.2.2.2.1 (by omega), ((Box.set0 S18.out.2.2.2.2.2.2 x2b).set1 y2b).set2 z2b⟩
                clear S18
                go_upto_region 18 with (fail)
                clear z0_ z1_ z2_ f0_ f1_ f2_
                rw [← hw_19]
                clear hw_19
                go_cut [138] from 125 to 138 (fun tt wx => tt = .bool false ∧ Hid (Below w.heap.size w wx ∧ Box 24 wx HA n s r ∧ Box 24 wx HB m t q ∧ Box 24 wx HC c u v ∧ Box 24 wx HD c u v ∧ Box 24 wx HP x1b y1b z1b ∧ Box 24 wx HQ x2b y2b z2b))
                case first =>
                  cases k1b
                  · go_wp2
                    go_meet
                    exact ⟨rfl, S19.out⟩
                  · cases k2b
                    · go_wp2
                      go_meet
                      exact ⟨rfl, S19.out⟩
                    · have hsw := HG.out (by simp) (by simp) (by simp)
                      obtain ⟨va, vb⟩ := swn_valid hsw
                      have HR := Lib.hid (fun W => rank_at (valid_small va).1 (valid_small va).2 (valid_small vb).1 (valid_small vb).2 true hsw W)
                      clear hsw va vb
                      obtain ⟨k0_0, k0_1, k0_2⟩ := Box.c S19.out.2.2.2.2.2.1
                      obtain ⟨k1_0, k1_1, k1_2⟩ := Box.c S19.out.2.2.2.2.2.2
                      go_wp2_with fail
                      clear k0_0 k0_1 k0_2 k1_0 k1_1 k1_2
                      refine (HR.out _).mono ?_
                      rintro e w_20 ⟨rfl, hb⟩
                      have S20 : Hid (Below w.heap.size w w_20 ∧ Box 24 w_20 HA n s r ∧ Box 24 w_20 HB m t q ∧ Box 24 w_20 HC c u v ∧ Box 24 w_20 HD c u v ∧ Box 24 w_20 HP x1b y1b z1b ∧ Box 24 w_20 HQ x2b y2b z2b) := ⟨S19.out.1.trans (hb.mono S19.out.1.size), S19.out.2.1.below hb S19.out.2.1.lt, S19.out.2.2.1.below hb S19.out.2.2.1.lt, S19.out.2.2.2.1.below hb S19.out.2.2.2.1.lt, S19.out.2.2.2.2.1.below hb S19.out.2.2.2.2.1.lt, S19.out.2.2.2.2.2.1.below hb S19.out.2.2.2.2.2.1.lt, S19.out.2.2.2.2.2.2.below hb S19.out.2.2.2.2.2.2.lt⟩
                      clear hb S19
                      go_wp2
                      go_meet
                      exact ⟨rfl, S20.out⟩
                case rest =>
                  obtain ⟨rfl, HSC⟩ := hcut
                  clear S19
                  have S20 := HSC
                  clear HSC
                  obtain ⟨x1c, y1c, z1c, k1c, x2c, y2c, z2c, k2c, hc1, hc2, hg⟩ := pair_prod HIS.out HDW.out hs hr ht hq hu hv hu hv
                  have HC1 := Lib.hid hc1
                  have HC2 := Lib.hid hc2
                  have HG := Lib.hid hg
                  clear hc1 hc2 hg
                  obtain ⟨k0_0, k0_1, k0_2⟩ := Box.c S20.out.2.1
                  obtain ⟨k1_0, k1_1, k1_2⟩ := Box.c S20.out.2.2.2.1
                  go_wp2_with fail
                  clear k0_0 k0_1 k0_2 k1_0 k1_1 k1_2
                  refine (HC1.out _).mono ?_
                  rintro e w_21 ⟨rfl, hb⟩
                  have S21 : Hid (Below w.heap.size w w_21 ∧ Box 24 w_21 HA n s r ∧ Box 24 w_21 HB m t q ∧ Box 24 w_21 HC c u v ∧ Box 24 w_21 HD c u v ∧ Box 24 w_21 HP x1b y1b z1b ∧ Box 24 w_21 HQ x2b y2b z2b) := ⟨S20.out.1.trans (hb.mono S20.out.1.size), S20.out.2.1.below hb S20.out.2.1.lt, S20.out.2.2.1.below hb S20.out.2.2.1.lt, S20.out.2.2.2.1.below hb S20.out.2.2.2.1.lt, S20.out.2.2.2.2.1.below hb S20.out.2.2.2.2.1.lt, S20.out.2.2.2.2.2.1.below hb S20.out.2.2.2.2.2.1.lt, S20.out.2.2.2.2.2.2.below hb S20.out.2.2.2.2.2.2.lt⟩
                  clear hb S20
                  obtain ⟨z0_, z1_, z2_⟩ := Box.c S21.out.2.2.2.2.2.1
                  have f0_ := Box.free S21.out.2.2.2.2.2.1 0
                  have f1_ := Box.free S21.out.2.2.2.2.2.1 1
                  have f2_ := Box.free S21.out.2.2.2.2.2.1 2
                  obtain ⟨w_22, hw_22⟩ : ∃ QZ, QZ = (((w_21.setCell ⟨HP, 0, none⟩ (.int .i64 x1c)).setCell ⟨HP, 1, none⟩ (.string y1c)).setCell ⟨HP, 2, none⟩ (.string z1c)) := ⟨_, rfl⟩
                  have S22 : Hid (Below w.heap.size w w_22 ∧ Box 24 w_22 HA n s r ∧ Box 24 w_22 HB m t q ∧ Box 24 w_22 HC c u v ∧ Box 24 w_22 HD c u v ∧ Box 24 w_22 HP x1c y1c z1c ∧ Box 24 w_22 HQ x2b y2b z2b) := by rw [hw_22]; exact ⟨Below.setCell (Below.setCell (Below.setCell S21.out.1 (by simp; omega) _) (by simp; omega) _) (by simp; omega) _, box_others S21.out.2.1 (by omega), box_others S21.out.2.2.1 (by omega), box_others S21.out.2.2.2.1 (by omega), box_others S21.out.2.2.2.2.1 (by omega), ((Box.set0 S21.out.2.2.2.2.2.1 x1c).set1 y1c).set2 z1c, box_others S21.out.2.2.2.2.2.2 (by omega)⟩
                  clear S21
                  go_upto_region 21 with (fail)
                  clear z0_ z1_ z2_ f0_ f1_ f2_
                  rw [← hw_22]
                  clear hw_22
                  obtain ⟨k0_0, k0_1, k0_2⟩ := Box.c S22.out.2.2.1
                  obtain ⟨k1_0, k1_1, k1_2⟩ := Box.c S22.out.2.2.2.2.1
                  go_wp2_with fail
                  clear k0_0 k0_1 k0_2 k1_0 k1_1 k1_2
                  refine (HC2.out _).mono ?_
                  rintro e w_23 ⟨rfl, hb⟩
                  have S23 : Hid (Below w.heap.size w w_23 ∧ Box 24 w_23 HA n s r ∧ Box 24 w_23 HB m t q ∧ Box 24 w_23 HC c u v ∧ Box 24 w_23 HD c u v ∧ Box 24 w_23 HP x1c y1c z1c ∧ Box 24 w_23 HQ x2b y2b z2b) := ⟨S22.out.1.trans (hb.mono S22.out.1.size), S22.out.2.1.below hb S22.out.2.1.lt, S22.out.2.2.1.below hb S22.out.2.2.1.lt, S22.out.2.2.2.1.below hb S22.out.2.2.2.1.lt, S22.out.2.2.2.2.1.below hb S22.out.2.2.2.2.1.lt, S22.out.2.2.2.2.2.1.below hb S22.out.2.2.2.2.2.1.lt, S22.out.2.2.2.2.2.2.below hb S22.out.2.2.2.2.2.2.lt⟩
                  clear hb S22
                  obtain ⟨z0_, z1_, z2_⟩ := Box.c S23.out.2.2.2.2.2.2
                  have f0_ := Box.free S23.out.2.2.2.2.2.2 0
                  have f1_ := Box.free S23.out.2.2.2.2.2.2 1
                  have f2_ := Box.free S23.out.2.2.2.2.2.2 2
                  obtain ⟨w_24, hw_24⟩ : ∃ QZ, QZ = (((w_23.setCell ⟨HQ, 0, none⟩ (.int .i64 x2c)).setCell ⟨HQ, 1, none⟩ (.string y2c)).setCell ⟨HQ, 2, none⟩ (.string z2c)) := ⟨_, rfl⟩
                  have S24 : Hid (Below w.heap.size w w_24 ∧ Box 24 w_24 HA n s r ∧ Box 24 w_24 HB m t q ∧ Box 24 w_24 HC c u v ∧ Box 24 w_24 HD c u v ∧ Box 24 w_24 HP x1c y1c z1c ∧ Box 24 w_24 HQ x2c y2c z2c) := by rw [hw_24]; exact ⟨Below.setCell (Below.setCell (Below.setCell S23.out.1 (by simp; omega) _) (by simp; omega) _) (by simp; omega) _, box_others S23.out.2.1 (by omega), box_others S23.out.2.2.1 (by omega), box_others S23.out.2.2.2.1 (by omega), box_others S23.out.2.2.2.2.1 (by omega), box_others S23.out.2.2.2.2.2.1 (by omega), ((Box.set0 S23.out.2.2.2.2.2.2 x2c).set1 y2c).set2 z2c⟩
                  clear S23
                  go_upto_region 22 with (fail)
                  clear z0_ z1_ z2_ f0_ f1_ f2_
                  rw [← hw_24]
                  clear hw_24
                  cases k1c
                  · go_wp2
                    go_ret
                    exact ⟨rfl, S24.out.1⟩
                  · cases k2c
                    · go_wp2
                      go_ret
                      exact ⟨rfl, S24.out.1⟩
                    · have hsw := HG.out (by simp) (by simp) (by simp)
                      obtain ⟨va, vb⟩ := swn_valid hsw
                      have HR := Lib.hid (fun W => rank_at (valid_small va).1 (valid_small va).2 (valid_small vb).1 (valid_small vb).2 true hsw W)
                      clear hsw va vb
                      obtain ⟨k0_0, k0_1, k0_2⟩ := Box.c S24.out.2.2.2.2.2.1
                      obtain ⟨k1_0, k1_1, k1_2⟩ := Box.c S24.out.2.2.2.2.2.2
                      go_wp2_with fail
                      clear k0_0 k0_1 k0_2 k1_0 k1_1 k1_2
                      refine (HR.out _).mono ?_
                      rintro e w_25 ⟨rfl, hb⟩
                      have S25 : Hid (Below w.heap.size w w_25 ∧ Box 24 w_25 HA n s r ∧ Box 24 w_25 HB m t q ∧ Box 24 w_25 HC c u v ∧ Box 24 w_25 HD c u v ∧ Box 24 w_25 HP x1c y1c z1c ∧ Box 24 w_25 HQ x2c y2c z2c) := ⟨S24.out.1.trans (hb.mono S24.out.1.size), S24.out.2.1.below hb S24.out.2.1.lt, S24.out.2.2.1.below hb S24.out.2.2.1.lt, S24.out.2.2.2.1.below hb S24.out.2.2.2.1.lt, S24.out.2.2.2.2.1.below hb S24.out.2.2.2.2.1.lt, S24.out.2.2.2.2.2.1.below hb S24.out.2.2.2.2.2.1.lt, S24.out.2.2.2.2.2.2.below hb S24.out.2.2.2.2.2.2.lt⟩
                      clear hb S24
                      go_wp2
                      go_ret
                      exact ⟨rfl, S25.out.1⟩
end Go.Proofs.YtpcnoiigbmiejaaDoor.fnSumgW
