/- FnTwoVariables: the walk. -/
import Derived.Test.YtpcnoiigbmiejaaGreatDoorPkK
import Derived.Test.YtpcnoiigbmiejaaGreatDoorPkF
import Derived.Test.YtpcnoiigbmiejaaGreatDoorPkE
import Derived.Test.YtpcnoiigbmiejaaGreatDoorPkZ
import Derived.Test.YtpcnoiigbmiejaaGreatDoorPk5
import Derived.Test.YtpcnoiigbmiejaaGreatDoorRow
namespace Go.Proofs.YtpcnoiigbmiejaaGreatDoor.fnTwoVariablesW
set_option linter.unusedVariables false
set_option linter.unusedSimpArgs false
open Go.ChangeShapes Go.WideShapes Go.ChangeAt Go.RowKit
open Go.Proofs.YtpcnoiigbmiejaaGreatDoor.flow Go.Proofs.YtpcnoiigbmiejaaGreatDoor.lib Go.Proofs.YtpcnoiigbmiejaaGreatDoor.st Go.Proofs.YtpcnoiigbmiejaaGreatDoor.draw Go.Proofs.YtpcnoiigbmiejaaGreatDoor.base Go.Proofs.YtpcnoiigbmiejaaGreatDoor.chain Go.Proofs.YtpcnoiigbmiejaaGreatDoor.col Go.Proofs.YtpcnoiigbmiejaaGreatDoor.colp Go.Proofs.YtpcnoiigbmiejaaGreatDoor.both Go.Proofs.YtpcnoiigbmiejaaGreatDoor.specd Go.Proofs.YtpcnoiigbmiejaaGreatDoor.coli Go.Proofs.YtpcnoiigbmiejaaGreatDoor.colj Go.Proofs.YtpcnoiigbmiejaaGreatDoor.cole Go.Proofs.YtpcnoiigbmiejaaGreatDoor.colq Go.Proofs.YtpcnoiigbmiejaaGreatDoor.less Go.Proofs.YtpcnoiigbmiejaaGreatDoor.drawp Go.Proofs.YtpcnoiigbmiejaaGreatDoor.tab Go.Proofs.YtpcnoiigbmiejaaGreatDoor.fmt Go.Proofs.YtpcnoiigbmiejaaGreatDoor.twop Go.Proofs.YtpcnoiigbmiejaaGreatDoor.drf
/-- bytes that came in may be drawn from -/
theorem byt_of_row {w : World} {a : Option Addr} {n c : Nat} {zs : List Int} (h : row.IsRow .u8 w a n c zs) : Byt w w.heap.size a n ∧ n ≤ c ∧ c ≤ 9223372036854775807 := by
  rcases h with ⟨rfl, rfl, rfl, rfl⟩ | ⟨x, rfl, hl, hm, hz, hcell, hwf⟩
  · exact ⟨.inl rfl, Nat.le_refl _, by omega⟩
  · refine ⟨?_, hl, hm⟩
    by_cases h0 : n = 0
    · exact .inl h0
    · obtain ⟨b, off, spot⟩ := x
      have hc := hcell 0 (by omega)
      have hspot : spot = none := by simpa [Addr.add] using World.cell?_spot hc
      subst hspot
      have hlt := World.block_lt_of_cell? w _ hc
      refine .inr ⟨b, off, rfl, by simpa [Addr.add] using hlt, fun i hi => ?_⟩
      have hci := hcell i (by omega)
      have hw := hwf (zs.getD i 0) (by rw [List.getD_eq_getElem?_getD, List.getElem?_eq_getElem (by omega)]; exact List.getElem_mem _)
      have hb : 0 ≤ zs.getD i 0 ∧ zs.getD i 0 ≤ 255 := by
        generalize zs.getD i 0 = z at hw ⊢
        simp only [Lit.wf, IntKind.min, IntKind.max, IntKind.signed, IntKind.bits, Bool.and_eq_true, decide_eq_true_eq] at hw
        simp at hw
        omega
      refine ⟨(zs.getD i 0).toNat, by omega, ?_⟩
      rw [show (⟨b, off, none⟩ : Addr).add i = ⟨b, off + i, none⟩ from by simp only [Addr.add]; split <;> simp [*]] at hci
      rw [hci, show (((zs.getD i 0).toNat : Nat) : Int) = zs.getD i 0 from by omega]
theorem rv_cell {w : World} {b off n cap : Nat} {l : List Value} (h : RV w (.slice (some ⟨b, off, none⟩) n cap) l) {i : Nat} {x : Value} (hx : l[i]? = some x) : w.cell? ⟨b, off + i, none⟩ = some x := by
  obtain ⟨ao, c, hv, hr⟩ := h
  simp only [Value.slice.injEq] at hv
  rcases hr with rfl | ⟨b', off', ha, hc⟩
  · simp at hx
  · rw [ha] at hv
    simp only [Option.some.injEq, Addr.mk.injEq] at hv
    obtain ⟨⟨rfl, rfl, -⟩, -⟩ := hv
    obtain ⟨hi, rfl⟩ := List.getElem?_eq_some_iff.1 hx
    exact hc i hi

set_option maxHeartbeats 40000000 in
set_option maxRecDepth 100000 in
theorem walk (a0 : Option Addr) (n0 c0 : Nat) (l0 : List Int) (a1 : Option Addr) (n1 c1 : Nat) (l1 : List Int) (w : World) (h0 : row.IsRow .u8 w a0 n0 c0 l0) (h1 : row.IsRow .u8 w a1 n1 c1 l1) :
    Calls Tryz.prog 5 #[.slice a0 n0 c0, .slice a1 n1 c1] w fun e w' => e = .returned (.bool true) ∧ Below w.heap.size w w' := by
  obtain ⟨by0, nc0, cm0⟩ := byt_of_row h0
  have BY0 := Lib.hid by0
  clear by0
  obtain ⟨by1, nc1, cm1⟩ := byt_of_row h1
  have BY1 := Lib.hid by1
  clear by1
  clear h0 h1
  by_cases hg0 : 1048576 < n0
  · go_enter Tryz.func5, Tryz.ntmps5
    go_wp2
    go_ret
    exact ⟨rfl, Below.refl _ _⟩
  by_cases hg1 : 1048576 < n1
  · go_enter Tryz.func5, Tryz.ntmps5
    go_wp2
    go_ret
    exact ⟨rfl, Below.refl _ _⟩
  go_enter Tryz.func5, Tryz.ntmps5
  have AW_0 : Hid (Below w.heap.size w w) := Below.refl _ _
  go_wp2_with fail
  refine (drawSame_any a0 n0 c0 _ BY0.out nc0 cm0).mono ?_
  rintro e w_1 ⟨n, s, r, m, t, q, rfl, hnw, hs, hr, hmw, ht, hq, hb⟩
  have hbn := hb
  have AW_1 : Hid (Below w.heap.size w w_1) := AW_0.out.trans (hbn.mono AW_0.out.size)
  clear hbn AW_0 
  have FA_1 : Hid (Box 24 (w_1.alloc (.cells #[.int .i64 n, .string s, .string r] 24)) (w_1.heap.size) n s r) := Box.new _ w_1 (w_1.heap.size) (by simp) _ _ _
  have FA_1 := Lib.hid (FA_1.out.below ((Below.refl (w_1.heap.size + 1) _).alloc (by simp) (.cells #[.int .i64 m, .string t, .string q] 24)) (by omega))
  have FB_1 : Hid (Box 24 ((w_1.alloc (.cells #[.int .i64 n, .string s, .string r] 24)).alloc (.cells #[.int .i64 m, .string t, .string q] 24)) (w_1.heap.size + 1) m t q) := Box.new _ (w_1.alloc (.cells #[.int .i64 n, .string s, .string r] 24)) (w_1.heap.size + 1) (by simp) _ _ _
  clear hb hnw hmw
  obtain ⟨is, his⟩ : ∃ z, z = sameR n s r m t q := ⟨_, rfl⟩
  have HK := Lib.hid his
  have HZ := Lib.hid (show _ ∧ _ ∧ _ ∧ _ from ⟨hs, hr, ht, hq⟩)
  clear his
  obtain ⟨HA, hHA⟩ : ∃ HA, HA = w_1.heap.size := ⟨_, rfl⟩
  have HHA := Lib.hid hHA
  clear hHA
  obtain ⟨a0, a1, a2⟩ := Box.c FA_1.out
  obtain ⟨b0, b1, b2⟩ := Box.c FB_1.out
  go_wp2_with fail
  clear  a0 a1 a2 b0 b1 b2
  refine (implSameColours_any n s r m t q _ (by omega) (by omega) (by omega) (by omega)).mono ?_
  rintro e w_2 ⟨rfl, hb⟩
  have hbn : Below w_1.heap.size w_1 w_2 := (((Below.refl w_1.heap.size w_1).alloc (by simp) (.cells #[.int .i64 n, .string s, .string r] 24)).alloc (by simp) (.cells #[.int .i64 m, .string t, .string q] 24)).trans (hb.mono (show w_1.heap.size ≤ _ by simp <;> omega))
  have FA_2 := Lib.hid (FA_1.out.below hb (by simp <;> omega))
  have FB_2 := Lib.hid (FB_1.out.below hb (by simp <;> omega))
  have AW_2 : Hid (Below w.heap.size w w_2) := AW_1.out.trans (hbn.mono AW_1.out.size)
  clear hbn AW_1 FA_1 FB_1
  rw [← HK.out]
  clear hb
  go_wp2_with fail
  refine (drawTheory_any a1 n1 c1 _ (BY1.out.up AW_2.out.size (fun k hk => AW_2.out.block k hk)) nc1 cm1).mono ?_
  rintro e w_3 ⟨xn, xs, xr, v, L, rfl, hrv, hL, hb⟩
  have hbn := hb
  have FA_3 := Lib.hid (FA_2.out.below hbn FA_2.out.lt)
  have FB_3 := Lib.hid (FB_2.out.below hbn FB_2.out.lt)
  have AW_3 : Hid (Below w.heap.size w w_3) := AW_2.out.trans (hbn.mono AW_2.out.size)
  clear hbn AW_2 FA_2 FB_2
  have FV_3 := Lib.hid hrv
  have HL := Lib.hid hL
  clear hrv hL
  clear hb
  have FC_3 : Hid (Box 24 (w_3.alloc (.cells #[.int .i64 xn, .string xs, .string xr] 24)) (w_3.heap.size) xn xs xr) := Box.new _ w_3 (w_3.heap.size) (by simp) _ _ _
  obtain ⟨a0, a1, a2⟩ := Box.c (FA_3.out.below ((Below.refl w_3.heap.size w_3).alloc (by simp) (.cells #[.int .i64 xn, .string xs, .string xr] 24)) FA_3.out.lt)
  obtain ⟨a_0, a_1, a_2⟩ := Box.c FA_3.out
  have alt := FA_3.out.lt
  obtain ⟨b0, b1, b2⟩ := Box.c (FB_3.out.below ((Below.refl w_3.heap.size w_3).alloc (by simp) (.cells #[.int .i64 xn, .string xs, .string xr] 24)) FB_3.out.lt)
  obtain ⟨b_0, b_1, b_2⟩ := Box.c FB_3.out
  have blt := FB_3.out.lt
  go_wp2_with fail
  clear  a0 a1 a2 a_0 a_1 a_2 alt b0 b1 b2 b_0 b_1 b_2 blt
  refine (specSameColours_any n s r m t q _ (by omega) (by omega) (by omega) (by omega)).mono ?_
  rintro e w_4 ⟨rfl, hb⟩
  have hbn : Below w_3.heap.size w_3 w_4 := ((Below.refl w_3.heap.size w_3).alloc (by simp) (.cells #[.int .i64 xn, .string xs, .string xr] 24)).trans (hb.mono (show w_3.heap.size ≤ _ by simp))
  have FA_4 := Lib.hid (FA_3.out.below hbn FA_3.out.lt)
  have FB_4 := Lib.hid (FB_3.out.below hbn FB_3.out.lt)
  have FV_4 := Lib.hid (FV_3.out.below hbn (Nat.le_refl _))
  have FC_4 := Lib.hid (FC_3.out.below hb (by simp))
  have AW_4 : Hid (Below w.heap.size w w_4) := AW_3.out.trans (hbn.mono AW_3.out.size)
  clear hbn AW_3 FA_3 FB_3 FV_3 FC_3
  rw [← HK.out]
  clear hb
  cases is with
  | false =>
    obtain ⟨a0, a1, a2⟩ := Box.c FA_4.out
    obtain ⟨b0, b1, b2⟩ := Box.c FB_4.out
    go_wp2_with fail
    clear  a0 a1 a2 b0 b1 b2
    refine (specSameColours_any n s r m t q _ (by omega) (by omega) (by omega) (by omega)).mono ?_
    rintro e w_5 ⟨rfl, hb⟩
    have hbn := hb
    have FA_5 := Lib.hid (FA_4.out.below hbn FA_4.out.lt)
    have FB_5 := Lib.hid (FB_4.out.below hbn FB_4.out.lt)
    have FV_5 := Lib.hid (FV_4.out.below hbn (Nat.le_refl _))
    have FC_5 := Lib.hid (FC_4.out.below hbn FC_4.out.lt)
    have AW_5 : Hid (Below w.heap.size w w_5) := AW_4.out.trans (hbn.mono AW_4.out.size)
    clear hbn AW_4 FA_4 FB_4 FV_4 FC_4
    rw [← HK.out]
    clear hb
    go_wp2
    go_ret
    exact ⟨rfl, AW_5.out⟩
  | true =>
    have HS := Lib.hid HK.out.symm
    obtain ⟨hv1, hv2⟩ := same_valid HS.out
    obtain ⟨N, rfl⟩ : ∃ N : Nat, n = (N : Int) := ⟨n.toNat, by have := (validB_iff.1 hv1).1; omega⟩
    obtain ⟨M, rfl⟩ : ∃ M : Nat, m = (M : Int) := ⟨m.toNat, by have := (validB_iff.1 hv2).1; omega⟩
    have HV1 := Lib.hid hv1
    have HV2 := Lib.hid hv2
    have HS0 : Hid (Below w.heap.size w w_4 ∧ Box 24 w_4 HA N s r ∧ Box 24 w_4 (HA + 1) M t q ∧ RV w_4 v (L.map Value.string)) := ⟨AW_4.out, by rw [HHA.out]; exact FA_4.out, by rw [HHA.out]; exact FB_4.out, FV_4.out⟩
    clear AW_4 FA_4 FB_4 FC_4 FV_4 HK hv1 hv2
    go_wp2_with fail
    rw [← HHA.out]
    clear HHA
    have hL4 : L.length ≤ 4 := HL.out.1
    go_loopw [10] (fun iv wr => ∃ i : Nat, i ≤ L.length ∧ iv = .int .i64 i ∧ Hid (Below w.heap.size w wr ∧ Box 24 wr HA N s r ∧ Box 24 wr (HA + 1) M t q ∧ RV wr v (L.map Value.string))) (fun iv _ => L.length - (intOf iv).toNat)
    case atStart => exact ⟨0, Nat.zero_le _, rfl, HS0.out⟩
    case round =>
      clear HS0
      obtain ⟨i, hiL, rfl, HS1⟩ := hrel
      obtain ⟨ao, cap, hv, hrow⟩ := HS1.out.2.2.2
      rw [List.length_map] at hv
      by_cases hlt : i < L.length
      · obtain ⟨f, hf⟩ : ∃ f, f = L[i] := ⟨_, rfl⟩
        obtain ⟨b, off, hao, hc⟩ : ∃ b off, ao = some ⟨b, off, none⟩ ∧ wr.cell? ⟨b, off + i, none⟩ = some (.string f) := by
          rcases hrow with h | ⟨b, off, h, hc⟩
          · have := congrArg List.length h; simp at this; rw [this] at hlt; simp at hlt
          · refine ⟨b, off, h, ?_⟩
            have := hc i (by simpa using hlt)
            rw [this, hf]; simp
        subst hao
        have HFI : Hid ((L.map Value.string)[i]? = some (.string f)) := by rw [Hid, hf]; simp [hlt]
        have hfz : f.size ≤ 1000 := HL.out.2 f (by rw [hf]; exact List.getElem_mem _)
        have HROW := Lib.hid hv
        clear hrow hf
        subst hv
        have t1 : (i : Int) < (L.length : Int) := by omega
        go_wp2_with fail
        go_loop [11] (fun kv => ∃ k : Nat, k ≤ f.size ∧ kv = .int .i64 k ∧ Hid (∀ j (h : j < f.size), j < k → f[j].toNat ≠ 99 ∧ f[j].toNat ≠ 100)) (fun kv => f.size - (intOf kv).toNat)
        case atStart => exact ⟨0, Nat.zero_le _, rfl, fun j h h0 => by omega⟩
        case round =>
          obtain ⟨k, hk, rfl, HC⟩ := hrel
          by_cases hkt : k < f.size
          · by_cases h99 : f[k].toNat = 99
            · have y1 : ((f[k].toNat : Int) == 99) = true := by simp; omega
              go_wp2
              go_ret
              exact ⟨rfl, HS1.out.1⟩
            have y1 : ((f[k].toNat : Int) == 99) = false := by simp; omega
            by_cases h100 : f[k].toNat = 100
            · have y2 : ((f[k].toNat : Int) == 100) = true := by simp; omega
              go_wp2
              go_ret
              exact ⟨rfl, HS1.out.1⟩
            have y2 : ((f[k].toNat : Int) == 100) = false := by simp; omega
            have HC2 : Hid (∀ j (h : j < f.size), j < k + 1 → f[j].toNat ≠ 99 ∧ f[j].toNat ≠ 100) := fun j h h0 => by
              by_cases hj : j = k
              · subst hj; exact ⟨h99, h100⟩
              · exact HC.out j h (by omega)
            clear h99 h100
            go_wp2
            go_round
            case rel => exact ⟨k + 1, by omega, by go_num, HC2.out⟩
            case measure => simp [intOf]; omega
          · obtain rfl : k = f.size := by omega
            have HNO : Hid (∀ j (h : j < f.size), f[j].toNat ≠ 99 ∧ f[j].toNat ≠ 100) := fun j h => HC.out j h h
            clear HC
            have cA0 : ∀ QQ : Wd (fun X => Hid (Below wr.heap.size wr X)), QQ.w.cell? ⟨HA, 0, none⟩ = some (.int .i64 N) := fun QQ => ((HS1.out.2.1.below QQ.ok.out HS1.out.2.1.lt).c).1
            have cA1 : ∀ QQ : Wd (fun X => Hid (Below wr.heap.size wr X)), QQ.w.cell? ⟨HA, 1, none⟩ = some (.string s) := fun QQ => ((HS1.out.2.1.below QQ.ok.out HS1.out.2.1.lt).c).2.1
            have cA2 : ∀ QQ : Wd (fun X => Hid (Below wr.heap.size wr X)), QQ.w.cell? ⟨HA, 2, none⟩ = some (.string r) := fun QQ => ((HS1.out.2.1.below QQ.ok.out HS1.out.2.1.lt).c).2.2
            have cF : ∀ QQ : Wd (fun X => Hid (Below wr.heap.size wr X)), QQ.w.cell? ⟨b, off + i, none⟩ = some (.string f) := fun QQ => rv_cell (HS1.out.2.2.2.below QQ.ok.out (Nat.le_refl _)) HFI.out
            have hne : Nonempty (Wd (fun X => Hid (Below wr.heap.size wr X))) := ⟨⟨wr, Lib.hid (Below.refl _ _)⟩⟩
            go_wp2_with fail
            refine chain (S := (fun X => Hid (Below wr.heap.size wr X))) [([true, true, true, true, true], 5)] [false, false, false, false, false, false, true, true, true, true, true] (by kernel_rfl) (by kernel_rfl) (by kernel_rfl) (Lib.hid (Below.refl wr.heap.size wr).drew) ?_
            simp only [wpSegs, pickB, List.dropLast_cons_cons, List.dropLast_singleton, List.getLast?_cons_cons, List.getLast?_singleton, List.toList_toArray, List.getElem?_toArray, List.getElem?_cons_succ, List.getElem?_cons_zero, Option.toList_some]
            repeat (go_big_quiet_step (fail))
            refine wpQuiet_nil ?_
            intro K hK
            go_wp2_with fail
            refine (ist.holdsIn_any N s r f HV1.out _).mono ?_
            rintro e w1 ⟨x, one, rfl, hb, hx⟩
            have HX := Lib.hid hx
            have hbn : Below wr.heap.size wr w1 := (Below.refl wr.heap.size wr).drew.trans hb
            have HS2 : Hid (Below w.heap.size w w1 ∧ Box 24 w1 HA N s r ∧ Box 24 w1 (HA + 1) M t q ∧ RV w1 (.slice (some ⟨b, off, none⟩) L.length cap) (L.map Value.string)) := ⟨HS1.out.1.trans (hbn.mono HS1.out.1.size), HS1.out.2.1.below hbn HS1.out.2.1.lt, HS1.out.2.2.1.below hbn HS1.out.2.2.1.lt, HS1.out.2.2.2.below hbn (Nat.le_refl _)⟩
            have HBN := Lib.hid hbn
            clear hx hb hbn
            go_wp2_with fail
            refine hK _ _ HBN ?_
            clear hK K
            repeat (go_big_quiet_step (fail))
            refine wpQuiet_nil ?_
            clear HBN
            clear cA0 cA1 cA2 cF hne
            have cA0 : ∀ QQ : Wd (fun X => Hid (Below w1.heap.size w1 X)), QQ.w.cell? ⟨(HA + 1), 0, none⟩ = some (.int .i64 M) := fun QQ => ((HS2.out.2.2.1.below QQ.ok.out HS2.out.2.2.1.lt).c).1
            have cA1 : ∀ QQ : Wd (fun X => Hid (Below w1.heap.size w1 X)), QQ.w.cell? ⟨(HA + 1), 1, none⟩ = some (.string t) := fun QQ => ((HS2.out.2.2.1.below QQ.ok.out HS2.out.2.2.1.lt).c).2.1
            have cA2 : ∀ QQ : Wd (fun X => Hid (Below w1.heap.size w1 X)), QQ.w.cell? ⟨(HA + 1), 2, none⟩ = some (.string q) := fun QQ => ((HS2.out.2.2.1.below QQ.ok.out HS2.out.2.2.1.lt).c).2.2
            have cF : ∀ QQ : Wd (fun X => Hid (Below w1.heap.size w1 X)), QQ.w.cell? ⟨b, off + i, none⟩ = some (.string f) := fun QQ => rv_cell (HS2.out.2.2.2.below QQ.ok.out (Nat.le_refl _)) HFI.out
            have hne : Nonempty (Wd (fun X => Hid (Below w1.heap.size w1 X))) := ⟨⟨w1, Lib.hid (Below.refl _ _)⟩⟩
            go_wp2_with fail
            refine chain (S := (fun X => Hid (Below w1.heap.size w1 X))) [([true, true, true, true, true], 5)] [false, false, false, false, false, false, true, true, true, true, true] (by kernel_rfl) (by kernel_rfl) (by kernel_rfl) (Lib.hid (Below.refl w1.heap.size w1).drew) ?_
            simp only [wpSegs, pickB, List.dropLast_cons_cons, List.dropLast_singleton, List.getLast?_cons_cons, List.getLast?_singleton, List.toList_toArray, List.getElem?_toArray, List.getElem?_cons_succ, List.getElem?_cons_zero, Option.toList_some]
            repeat (go_big_quiet_step (fail))
            refine wpQuiet_nil ?_
            intro K hK
            go_wp2_with fail
            refine (ist.holdsIn_any M t q f HV2.out _).mono ?_
            rintro e w2 ⟨y, two, rfl, hb, hx⟩
            have HY := Lib.hid hx
            have hbn : Below w1.heap.size w1 w2 := (Below.refl w1.heap.size w1).drew.trans hb
            have HS3 : Hid (Below w.heap.size w w2 ∧ Box 24 w2 HA N s r ∧ Box 24 w2 (HA + 1) M t q ∧ RV w2 (.slice (some ⟨b, off, none⟩) L.length cap) (L.map Value.string)) := ⟨HS2.out.1.trans (hbn.mono HS2.out.1.size), HS2.out.2.1.below hbn HS2.out.2.1.lt, HS2.out.2.2.1.below hbn HS2.out.2.2.1.lt, HS2.out.2.2.2.below hbn (Nat.le_refl _)⟩
            have HBN := Lib.hid hbn
            clear hx hb hbn
            go_wp2_with fail
            refine hK _ _ HBN ?_
            clear hK K
            repeat (go_big_quiet_step (fail))
            refine wpQuiet_nil ?_
            clear HBN
            clear cA0 cA1 cA2 cF hne
            cases one with
            | false =>
              go_wp2
              go_roundw
              case rel => exact ⟨i + 1, by omega, by go_num, HS3.out⟩
              case measure => simp [intOf]; omega
            | true =>
              cases two with
              | false =>
                go_wp2
                go_roundw
                case rel => exact ⟨i + 1, by omega, by go_num, HS3.out⟩
                case measure => simp [intOf]; omega
              | true =>
                have hxy : x = y := by
                  obtain ⟨fa, ha, -, hfr, hxa⟩ := HX.out rfl
                  obtain ⟨fb, hb, -, -, hyb⟩ := HY.out rfl
                  rw [hxa, hyb]
                  exact two_law HS.out ha hfr hb HNO.out
                subst hxy
                have tx : (x != x) = false := by simp
                go_wp2
                go_roundw
                case rel => exact ⟨i + 1, by omega, by go_num, HS3.out⟩
                case measure => simp [intOf]; omega
      · obtain rfl : i = L.length := by omega
        have t1 : ¬ (L.length : Int) < (L.length : Int) := by omega
        subst hv
        go_wp2
        go_ret
        exact ⟨rfl, HS1.out.1⟩
end Go.Proofs.YtpcnoiigbmiejaaGreatDoor.fnTwoVariablesW
