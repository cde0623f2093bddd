/- FnDistanceFormula: the walk. -/
import Derived.Test.YtpcnoiigbmiejaaDoorDfI
import Derived.Test.YtpcnoiigbmiejaaDoorRank
import Derived.Test.YtpcnoiigbmiejaaDoorDefR
import Derived.Test.YtpcnoiigbmiejaaDoorPkF
import Derived.Test.YtpcnoiigbmiejaaDoorPk5
import Derived.Test.YtpcnoiigbmiejaaDoorPkD
import Derived.Test.YtpcnoiigbmiejaaDoorRow
namespace Go.Proofs.YtpcnoiigbmiejaaDoor.fnDistanceFormulaW
set_option linter.unusedVariables false
set_option linter.unusedSimpArgs false
open Go.ChangeShapes Go.WideShapes Go.ChangeAt Go.RowKit
open Go.Proofs.YtpcnoiigbmiejaaDoor.flow Go.Proofs.YtpcnoiigbmiejaaDoor.lib Go.Proofs.YtpcnoiigbmiejaaDoor.st Go.Proofs.YtpcnoiigbmiejaaDoor.draw Go.Proofs.YtpcnoiigbmiejaaDoor.base Go.Proofs.YtpcnoiigbmiejaaDoor.chain Go.Proofs.YtpcnoiigbmiejaaDoor.fm Go.Proofs.YtpcnoiigbmiejaaDoor.fmq Go.Proofs.YtpcnoiigbmiejaaDoor.sat Go.Proofs.YtpcnoiigbmiejaaDoor.dft Go.Proofs.YtpcnoiigbmiejaaDoor.dist Go.Proofs.YtpcnoiigbmiejaaDoor.near Go.Proofs.YtpcnoiigbmiejaaDoor.make Go.Proofs.YtpcnoiigbmiejaaDoor.val Go.Proofs.YtpcnoiigbmiejaaDoor.fmp Go.Proofs.YtpcnoiigbmiejaaDoor.game
/-- bytes that came in may be drawn from -/
theorem byt_of_row {w : World} {a : Option Addr} {n c : Nat} {zs : List Int} (h : row.IsRow .u8 w a n c zs) : Byt w w.heap.size a n ∧ n ≤ c ∧ c ≤ 9223372036854775807 := by
  rcases h with ⟨rfl, rfl, rfl, rfl⟩ | ⟨x, rfl, hl, hm, hz, hcell, hwf⟩
  · exact ⟨.inl rfl, Nat.le_refl _, by omega⟩
  · refine ⟨?_, hl, hm⟩
    by_cases h0 : n = 0
    · exact .inl h0
    · obtain ⟨b, off, spot⟩ := x
      have hc := hcell 0 (by omega)
      have hspot : spot = none := by simpa [Addr.add] using World.cell?_spot hc
      subst hspot
      have hlt := World.block_lt_of_cell? w _ hc
      refine .inr ⟨b, off, rfl, by simpa [Addr.add] using hlt, fun i hi => ?_⟩
      have hci := hcell i (by omega)
      have hw := hwf (zs.getD i 0) (by rw [List.getD_eq_getElem?_getD, List.getElem?_eq_getElem (by omega)]; exact List.getElem_mem _)
      have hb : 0 ≤ zs.getD i 0 ∧ zs.getD i 0 ≤ 255 := by
        generalize zs.getD i 0 = z at hw ⊢
        simp only [Lit.wf, IntKind.min, IntKind.max, IntKind.signed, IntKind.bits, Bool.and_eq_true, decide_eq_true_eq] at hw
        simp at hw
        omega
      refine ⟨(zs.getD i 0).toNat, by omega, ?_⟩
      rw [show (⟨b, off, none⟩ : Addr).add i = ⟨b, off + i, none⟩ from by simp only [Addr.add]; split <;> simp [*]] at hci
      rw [hci, show (((zs.getD i 0).toNat : Nat) : Int) = zs.getD i 0 from by omega]

set_option maxHeartbeats 1600000 in
theorem drawDf_any (ao : Option Addr) (len cap : Nat) (w : World) (h : Byt w w.heap.size ao len) (hc : len ≤ cap) (hm : cap ≤ 9223372036854775807) :
    Calls Tryd.prog 35 #[.slice ao len cap] w fun e w' => ∃ d : Int, e = .returned (.int .i64 d) ∧ (d = -1 ∨ d = 101 ∨ ∃ D : Nat, d = D ∧ (D ≤ 5 ∨ D = 100)) ∧ Below w.heap.size w w' := by
  have HBY := Lib.hid h
  clear h
  go_enter Tryd.func35, Tryd.ntmps35
  go_wp2_with fail
  refine (open_any ao len cap _ HBY.out hc hm).mono ?_
  rintro e w1 ⟨R, ao1, len1, cap1, rfl, hrd, hR, hb⟩
  have HP1 := Lib.hid (show _ ∧ _ from ⟨hrd, hb⟩)
  clear hrd hb
  go_wp2_with fail
  refine (num_lit R ao1 len1 cap1 0 9 w1.heap.size _ [0, 1, 2, 3, 4, 5, -1, 100, 101] w1 HP1.out.1 (by omega) rfl rfl (by decide) (by decide) rfl).mono ?_
  rintro e w2 ⟨x, hx, rfl, hr, hg0⟩
  have hg := grown_trans (World.grownBy_alloc w1 _ (some R)) hg0
  have HR : Hid ((x = -1 ∨ x = 101 ∨ ∃ D : Nat, x = D ∧ (D ≤ 5 ∨ D = 100)) ∧ Below w.heap.size w w2) := by
    refine ⟨?_, HP1.out.2.grown hg HP1.out.2.size (fun k hk => by cases hk; omega)⟩
    simp only [List.mem_cons, List.not_mem_nil, or_false] at hx
    rcases hx with rfl | rfl | rfl | rfl | rfl | rfl | rfl | rfl | rfl
    · exact .inr (.inr ⟨0, rfl, by omega⟩)
    · exact .inr (.inr ⟨1, rfl, by omega⟩)
    · exact .inr (.inr ⟨2, rfl, by omega⟩)
    · exact .inr (.inr ⟨3, rfl, by omega⟩)
    · exact .inr (.inr ⟨4, rfl, by omega⟩)
    · exact .inr (.inr ⟨5, rfl, by omega⟩)
    · exact .inl rfl
    · exact .inr (.inr ⟨100, rfl, by omega⟩)
    · exact .inr (.inl rfl)
  clear hx hr hg hg0
  go_wp2
  go_ret
  exact ⟨x, rfl, HR.out.1, HR.out.2⟩
/-- the law of one pair, in plain words -/
theorem pair_law {N : Nat} {s r : ByteArray} (hv : validB (N : Int) s r = true) {d x y : Nat} (hx : x < N) (hy : y < N) :
    bitAt (ist.relOf N s r (fd d 0 2)) (x * N + y) = decide (0 ≤ distR N s r x y ∧ distR N s r x y ≤ (d : Int)) := by
  have h1 : elemB N s r x = true := elemB_iff.2 ⟨hv, by omega, by omega⟩
  have h2 : elemB N s r y = true := elemB_iff.2 ⟨hv, by omega, by omega⟩
  have e : distR N s r x y = D (nx (gob.gr N s r)) N x y := by
    unfold distR
    rw [if_pos h1, if_pos h2]
    rfl
  rw [e]
  unfold ist.relOf
  rw [bit_bR (q := fun x y => sat (gob.gr N s r) (fd d 0 2) (ist.e2 x y)) hx hy, Bool.eq_iff_iff, decide_eq_true_iff]
  exact fd_dist (A := gob.gr N s r) hx hy rfl rfl
theorem rel_size (N : Nat) (s r : ByteArray) (a : Fm) : (ist.relOf N s r a).size = N * N := bR_size _ _ _

set_option maxHeartbeats 40000000 in
set_option maxRecDepth 100000 in
theorem walk (a0 : Option Addr) (n0 c0 : Nat) (l0 : List Int) (a1 : Option Addr) (n1 c1 : Nat) (l1 : List Int) (w : World) (h0 : row.IsRow .u8 w a0 n0 c0 l0) (h1 : row.IsRow .u8 w a1 n1 c1 l1) (hT : df.Tabs w) :
    Calls Tryd.prog 8 #[.slice a0 n0 c0, .slice a1 n1 c1] w fun e w' => e = .returned (.bool true) ∧ Below w.heap.size w w' := by
  obtain ⟨by0, nc0, cm0⟩ := byt_of_row h0
  have BY0 := Lib.hid by0
  clear by0
  obtain ⟨by1, nc1, cm1⟩ := byt_of_row h1
  have BY1 := Lib.hid by1
  clear by1
  clear h0 h1
  by_cases hg0 : 1048576 < n0
  · go_enter Tryd.func8, Tryd.ntmps8
    go_wp2
    go_ret
    exact ⟨rfl, Below.refl _ _⟩
  by_cases hg1 : 1048576 < n1
  · go_enter Tryd.func8, Tryd.ntmps8
    go_wp2
    go_ret
    exact ⟨rfl, Below.refl _ _⟩
  have HT := Lib.hid hT
  clear hT
  go_enter Tryd.func8, Tryd.ntmps8
  go_wp2_with fail
  refine (drawDf_any a0 n0 c0 _ BY0.out nc0 cm0).mono ?_
  rintro e w1 ⟨d, rfl, hd, hb1⟩
  have HB1 := Lib.hid hb1
  have HT1 := Lib.hid (df.tabs_below HT.out hb1)
  have HD := Lib.hid hd
  clear hb1 hd HT
  obtain ⟨F, hF⟩ : ∃ F, F = df.dfS d := ⟨_, rfl⟩
  obtain ⟨o, ho⟩ : ∃ o, o = df.okD d := ⟨_, rfl⟩
  have HF := Lib.hid hF
  have HO := Lib.hid ho
  clear hF ho
  go_wp2_with fail
  refine (df.implDf_any d _ HT1.out).mono ?_
  rintro e w2 ⟨he, hb2⟩
  rw [← HF.out, ← HO.out] at he
  subst he
  have HB2 := Lib.hid (HB1.out.trans (hb2.mono HB1.out.size))
  clear hb2 HB1 HT1
  go_wp2_with fail
  refine (df.specDf_any d _).mono ?_
  rintro e w3 ⟨he, rfl⟩
  rw [← HF.out, ← HO.out] at he
  subst he
  cases o with
  | false =>
    go_wp2
    go_ret
    exact ⟨rfl, HB2.out⟩
  | true =>
    obtain ⟨D, rfl, hD⟩ : ∃ D : Nat, d = D ∧ (D ≤ 5 ∨ D = 100) := by
      rcases HD.out with rfl | rfl | h
      · exact absurd HO.out (by decide)
      · exact absurd HO.out (by decide)
      · exact h
    by_cases h5 : D ≤ 5
    · have k5 : decide ((5 : Int) < (D : Int)) = false := by simp; omega
      have HAT : Hid (At F 0 (fd D 0 2) F.size ∧ F.size ≤ 4000) := by
        have e : F = df.wb D 97 99 := by rw [HF.out]; unfold df.dfS; rw [← HO.out, if_pos rfl, Int.toNat_natCast]
        rw [e]
        exact ⟨rdb.at_wb D, by rw [df.wb_size]; omega⟩
      clear HF HO HD hD
      go_wp2_with fail
      refine (drawPieces_any a1 n1 c1 _ (BY1.out.up HB2.out.size (fun k hk => HB2.out.block k hk)) nc1 cm1).mono ?_
      rintro e w4 ⟨n, s, r, rfl, hnw, hs, hr, hb4⟩
      obtain ⟨W4, hW4⟩ : ∃ W4, W4 = w4.alloc (.cells #[.int .i64 n, .string s, .string r] 24) := ⟨_, rfl⟩
      obtain ⟨HA, hHA⟩ : ∃ HA, HA = w4.heap.size := ⟨_, rfl⟩
      have HS4 : Hid (Below w.heap.size w W4 ∧ Box 24 W4 HA n s r) := by
        have hb := HB2.out.trans (hb4.mono HB2.out.size)
        refine ⟨?_, ?_⟩
        · rw [hW4]; exact hb.alloc hb.size _
        · rw [hW4, hHA]; exact Box.new _ _ _ rfl _ _ _
      have HW4 := Lib.hid hW4
      have HHA := Lib.hid hHA
      clear hW4 hHA hb4 HB2
      obtain ⟨b0, b1, b2⟩ := HS4.out.2.c
      go_upto_region 9 with (fail)
      rw [← HW4.out, ← HHA.out]
      clear HW4 HHA
      go_wp2_with fail
      clear b0 b1 b2
      refine (inrel.implValid_any n s r _ (by omega) (by omega)).mono ?_
      rintro e w5 ⟨he, hb5⟩
      have HS5 : Hid (Below w.heap.size w w5 ∧ Box 24 w5 HA n s r) := ⟨HS4.out.1.trans (hb5.mono HS4.out.1.size), HS4.out.2.below hb5 HS4.out.2.lt⟩
      clear hb5 HS4
      cases hvb : validB n s r with
      | false =>
        rw [hvb] at he
        subst he
        go_wp2_with fail
        refine (rnk.implFormulaValid_any F _ HAT.out.1 HAT.out.2 _).mono ?_
        rintro e w6 ⟨rfl, hb6⟩
        have HR := Lib.hid (HS5.out.1.trans (hb6.mono HS5.out.1.size))
        clear hb6
        go_wp2
        go_ret
        exact ⟨rfl, HR.out⟩
      | true =>
        rw [hvb] at he
        subst he
        obtain ⟨v1, v2, v3, -, -⟩ := validB_iff.1 hvb
        obtain ⟨N, rfl⟩ : ∃ N : Nat, n = (N : Int) := ⟨n.toNat, by omega⟩
        have hN : N ≤ 8 := by omega
        have HV := Lib.hid hvb
        obtain ⟨b0, b1, b2⟩ := HS5.out.2.c
        clear hvb v1 v2 v3
        go_wp2_with fail
        clear b0 b1 b2
        refine (ist.definedRel_any N s r F _ HV.out HAT.out.1 HAT.out.2 (fd_free D).1 _).mono ?_
        rintro e w6 ⟨rfl, hb6⟩
        obtain ⟨Q, hQ⟩ : ∃ Q, Q = ist.relOf N s r (fd D 0 2) := ⟨_, rfl⟩
        rw [← hQ]
        have HQ : Hid (∀ x y : Nat, x < N → y < N → bitAt Q (x * N + y) = decide (0 ≤ distR N s r x y ∧ distR N s r x y ≤ (D : Int))) := fun x y hx hy => by rw [hQ]; exact pair_law HV.out hx hy
        have hQs : Q.size = N * N := by rw [hQ]; exact rel_size N s r _
        have HS6 : Hid (Below w.heap.size w w6 ∧ Box 24 w6 HA (N : Int) s r) := ⟨HS5.out.1.trans (hb6.mono HS5.out.1.size), HS5.out.2.below hb6 HS5.out.2.lt⟩
        have HQS := Lib.hid hQs
        clear hQ hQs hb6 HS5
        go_wp2_with fail
        go_loopw [13] (fun xv wr => ∃ x : Nat, x ≤ N ∧ xv = .int .i64 x ∧ Hid (Below w.heap.size w wr ∧ Box 24 wr HA (N : Int) s r)) (fun xv _ => N - (intOf xv).toNat)
        case atStart => exact ⟨0, Nat.zero_le _, rfl, HS6.out⟩
        case round =>
          clear HS6
          obtain ⟨x, hxN, rfl, HS⟩ := hrel
          obtain ⟨b0, b1, b2⟩ := HS.out.2.c
          by_cases hx : x < N
          · go_wp2_with fail
            clear b0 b1 b2
            have HS0 := HS
            clear HS
            go_loopw [14] (fun yv wr => ∃ y : Nat, y ≤ N ∧ yv = .int .i64 y ∧ Hid (Below w.heap.size w wr ∧ Box 24 wr HA (N : Int) s r)) (fun yv _ => N - (intOf yv).toNat)
            case atStart => exact ⟨0, Nat.zero_le _, rfl, HS0.out⟩
            case round =>
              clear HS0
              obtain ⟨y, hyN, rfl, HS⟩ := hrel
              obtain ⟨b0, b1, b2⟩ := HS.out.2.c
              by_cases hy : y < N
              · go_wp2_with fail
                clear b0 b1 b2
                refine (implDistanceOf_any (N : Int) s r (x : Int) (y : Int) _ (by omega) (by omega)).mono ?_
                rintro e w7 ⟨rfl, hb7⟩
                have HS7 : Hid (Below w.heap.size w w7 ∧ Box 24 w7 HA (N : Int) s r) := ⟨HS.out.1.trans (hb7.mono HS.out.1.size), HS.out.2.below hb7 HS.out.2.lt⟩
                clear hb7 HS
                obtain ⟨z, hz⟩ : ∃ z, z = distR N s r x y := ⟨_, rfl⟩
                rw [← hz]
                have hbit : bitAt Q (x * N + y) = decide (0 ≤ z ∧ z ≤ (D : Int)) := by rw [hz]; exact HQ.out x y hx hy
                obtain ⟨J, hJ⟩ : ∃ J, J = x * N := ⟨_, rfl⟩
                have hJle : J + N ≤ N * N := by
                  rw [hJ]
                  have : (x + 1) * N ≤ N * N := Nat.mul_le_mul_right _ hx
                  rw [Nat.succ_mul] at this
                  exact this
                have hNN : N * N ≤ 64 := Nat.mul_le_mul hN hN
                obtain ⟨I, hI⟩ : ∃ I, I = J + y := ⟨_, rfl⟩
                have hIs : I < Q.size := by rw [HQS.out]; omega
                rw [← hJ, ← hI] at hbit
                have e1 : (x : Int) * (N : Int) = (J : Int) := by rw [hJ]; exact (Int.natCast_mul x N).symm
                have e2 : IntKind.i64.wrap (J : Int) = (J : Int) := IntWalk.i64_in _ (by omega)
                have e3 : (J : Int) + (y : Int) = (I : Int) := by omega
                have e4 : IntKind.i64.wrap (I : Int) = (I : Int) := IntWalk.i64_in _ (by omega)
                have e5 : ((Q[I].toNat : Int) == 49) = decide (0 ≤ z ∧ z ≤ (D : Int)) := by rw [← hbit]; exact (bitAt_get Q I hIs).symm
                obtain ⟨b0, b1, b2⟩ := HS7.out.2.c
                clear hz hbit hJ hJle hNN hI
                by_cases hz0 : 0 ≤ z
                · by_cases hzD : z ≤ (D : Int)
                  · have e6 : decide (0 ≤ z ∧ z ≤ (D : Int)) = true := decide_eq_true ⟨hz0, hzD⟩
                    rw [e6] at e5
                    clear e6
                    have k0 : decide (0 ≤ z) = true := decide_eq_true hz0
                    have k1 : decide (z ≤ (D : Int)) = true := decide_eq_true hzD
                    go_wp2
                    go_roundw
                    case rel => exact ⟨y + 1, by omega, by go_num, HS7.out⟩
                    case measure => simp [intOf]; omega
                  · have e6 : decide (0 ≤ z ∧ z ≤ (D : Int)) = false := decide_eq_false fun h => hzD h.2
                    rw [e6] at e5
                    clear e6
                    have k0 : decide (0 ≤ z) = true := decide_eq_true hz0
                    have k1 : decide (z ≤ (D : Int)) = false := decide_eq_false hzD
                    go_wp2
                    go_roundw
                    case rel => exact ⟨y + 1, by omega, by go_num, HS7.out⟩
                    case measure => simp [intOf]; omega
                · have e6 : decide (0 ≤ z ∧ z ≤ (D : Int)) = false := decide_eq_false fun h => hz0 h.1
                  rw [e6] at e5
                  clear e6
                  have k0 : decide (0 ≤ z) = false := decide_eq_false hz0
                  go_wp2
                  go_roundw
                  case rel => exact ⟨y + 1, by omega, by go_num, HS7.out⟩
                  case measure => simp [intOf]; omega
              · obtain rfl : y = N := by omega
                go_wp2
                go_roundw
                case rel => exact ⟨x + 1, by omega, by go_num, HS.out⟩
                case measure => simp [intOf]; omega
          · obtain rfl : x = N := by omega
            go_wp2_with fail
            clear b0 b1 b2
            refine (rnk.rankOf_any F _ HAT.out.1 HAT.out.2 _).mono ?_
            rintro e w7 ⟨he, hb7⟩
            rw [fd_rank] at he
            subst he
            have HB7 := Lib.hid (HS.out.1.trans (hb7.mono HS.out.1.size))
            clear hb7 HS
            go_wp2_with fail
            refine (rnk.widthOf_any F _ HAT.out.1 HAT.out.2 _).mono ?_
            rintro e w8 ⟨he, hb8⟩
            rw [fd_bits] at he
            have HB8 := Lib.hid (HB7.out.trans (hb8.mono HB7.out.size))
            clear hb8 HB7
            have hm : ((min (2 + D) 3 : Nat) : Int) = min (2 + (D : Int)) 3 := by omega
            rw [hm] at he
            subst he
            have HM := Lib.hid hm
            clear hm
            go_wp2
            go_ret
            exact ⟨rfl, HB8.out⟩
    · obtain rfl : D = 100 := by omega
      go_wp2
      go_ret
      exact ⟨rfl, HB2.out⟩
end Go.Proofs.YtpcnoiigbmiejaaDoor.fnDistanceFormulaW
