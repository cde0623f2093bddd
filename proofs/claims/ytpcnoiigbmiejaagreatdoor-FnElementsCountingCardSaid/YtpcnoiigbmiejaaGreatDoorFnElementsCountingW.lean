/- FnElementsCounting: the walk. -/
import Derived.Test.YtpcnoiigbmiejaaGreatDoorDrawH
import Derived.Test.YtpcnoiigbmiejaaGreatDoorPkX
import Derived.Test.YtpcnoiigbmiejaaGreatDoorPkZ
import Derived.Test.YtpcnoiigbmiejaaGreatDoorPkE
import Derived.Test.YtpcnoiigbmiejaaGreatDoorGs
import Derived.Test.YtpcnoiigbmiejaaGreatDoorPk2
import Derived.Test.YtpcnoiigbmiejaaGreatDoorRow
namespace Go.Proofs.YtpcnoiigbmiejaaGreatDoor.fnElementsCountingW
set_option linter.unusedVariables false
set_option linter.unusedSimpArgs false
open Go.ChangeShapes Go.WideShapes Go.ChangeAt Go.RowKit
open Go.Proofs.YtpcnoiigbmiejaaGreatDoor.flow Go.Proofs.YtpcnoiigbmiejaaGreatDoor.lib Go.Proofs.YtpcnoiigbmiejaaGreatDoor.st Go.Proofs.YtpcnoiigbmiejaaGreatDoor.draw Go.Proofs.YtpcnoiigbmiejaaGreatDoor.base Go.Proofs.YtpcnoiigbmiejaaGreatDoor.chain Go.Proofs.YtpcnoiigbmiejaaGreatDoor.gs Go.Proofs.YtpcnoiigbmiejaaGreatDoor.col Go.Proofs.YtpcnoiigbmiejaaGreatDoor.colp Go.Proofs.YtpcnoiigbmiejaaGreatDoor.both Go.Proofs.YtpcnoiigbmiejaaGreatDoor.specd Go.Proofs.YtpcnoiigbmiejaaGreatDoor.coli Go.Proofs.YtpcnoiigbmiejaaGreatDoor.colj Go.Proofs.YtpcnoiigbmiejaaGreatDoor.cole Go.Proofs.YtpcnoiigbmiejaaGreatDoor.colq Go.Proofs.YtpcnoiigbmiejaaGreatDoor.less Go.Proofs.YtpcnoiigbmiejaaGreatDoor.pbi Go.Proofs.YtpcnoiigbmiejaaGreatDoor.peb Go.Proofs.YtpcnoiigbmiejaaGreatDoor.tab
/-- bytes that came in may be drawn from -/
theorem byt_of_row {w : World} {a : Option Addr} {n c : Nat} {zs : List Int} (h : row.IsRow .u8 w a n c zs) : Byt w w.heap.size a n ∧ n ≤ c ∧ c ≤ 9223372036854775807 := by
  rcases h with ⟨rfl, rfl, rfl, rfl⟩ | ⟨x, rfl, hl, hm, hz, hcell, hwf⟩
  · exact ⟨.inl rfl, Nat.le_refl _, by omega⟩
  · refine ⟨?_, hl, hm⟩
    by_cases h0 : n = 0
    · exact .inl h0
    · obtain ⟨b, off, spot⟩ := x
      have hc := hcell 0 (by omega)
      have hspot : spot = none := by simpa [Addr.add] using World.cell?_spot hc
      subst hspot
      have hlt := World.block_lt_of_cell? w _ hc
      refine .inr ⟨b, off, rfl, by simpa [Addr.add] using hlt, fun i hi => ?_⟩
      have hci := hcell i (by omega)
      have hw := hwf (zs.getD i 0) (by rw [List.getD_eq_getElem?_getD, List.getElem?_eq_getElem (by omega)]; exact List.getElem_mem _)
      have hb : 0 ≤ zs.getD i 0 ∧ zs.getD i 0 ≤ 255 := by
        generalize zs.getD i 0 = z at hw ⊢
        simp only [Lit.wf, IntKind.min, IntKind.max, IntKind.signed, IntKind.bits, Bool.and_eq_true, decide_eq_true_eq] at hw
        simp at hw
        omega
      refine ⟨(zs.getD i 0).toNat, by omega, ?_⟩
      rw [show (⟨b, off, none⟩ : Addr).add i = ⟨b, off + i, none⟩ from by simp only [Addr.add]; split <;> simp [*]] at hci
      rw [hci, show (((zs.getD i 0).toNat : Nat) : Int) = zs.getD i 0 from by omega]

/-- colours that stay tell what all rounds tell -/
theorem cols_all_rounds {a : St} {k x y : Nat} (h : 0 < a.n) (hx : x < a.n) (hy : y < a.n) (hs : most (cols [a] k) = most (cols [a] (k + 1))) : (cols [a] k).getD x 0 = (cols [a] k).getD y 0 ↔ ∀ j, (cols [a] j).getD x 0 = (cols [a] j).getD y 0 := by
  have ht : total [a] = a.n := by simp [total]
  refine ⟨fun e j => ?_, fun e => e k⟩
  have back : ∀ d m, (cols [a] (m + d)).getD x 0 = (cols [a] (m + d)).getD y 0 → (cols [a] m).getD x 0 = (cols [a] m).getD y 0 := fun d => by
    induction d with
    | zero => exact fun m h => h
    | succ d ih => exact fun m h => ih m (cols_refine (by omega) (by omega) h)
  rcases Nat.le_total j k with q | q
  · obtain ⟨d, rfl⟩ := Nat.le.dest q
    exact back d j e
  · obtain ⟨d, rfl⟩ := Nat.le.dest q
    rw [cols_stay (cols_stop (by omega) hs) d]; exact e
theorem stab_stop (a : St) (h : 0 < total [a]) (h8 : total [a] ≤ 8) : most (cols [a] (stab a)) = most (cols [a] (stab a + 1)) := by
  unfold stab
  cases e : (List.range 8).find? (fun k => decide (most (cols [a] k) = most (cols [a] (k + 1)))) with
  | none =>
    have hn := List.find?_eq_none.1 e
    have hne : ∀ j, j < 7 → most (cols [a] j) ≠ most (cols [a] (j + 1)) := fun j hj he => hn j (List.mem_range.2 (by omega)) (decide_eq_true he)
    exact stable_at h h8 hne
  | some k =>
    obtain ⟨h1, h2, h3⟩ := List.find?_range_eq_some.1 e
    exact of_decide_eq_true h1
theorem one_ready {N x y : Nat} {s r : ByteArray} (h1 : validB N s r = true) (hx : x < N) (hy : y < N) : readyB N s r [(x : Int), -1] N s r [(y : Int), -1] = true := by
  have hn := (validB_iff.1 h1).1
  have p : ∀ z : Nat, z < N → pebB N [(z : Int), -1] = true := fun z hz => by
    unfold pebB
    have e1 : pbIn N (-1) = true := decide_eq_true (by omega)
    have e2 : pbIn N (z : Int) = true := decide_eq_true (by omega)
    simp [e1, e2]
  have q : signB [(x : Int), -1] [(y : Int), -1] = true := decide_eq_true fun i hi => by
    match i, hi with
    | 0, _ => show (x : Int) < 0 ↔ (y : Int) < 0; omega
    | 1, _ => exact Iff.rfl
  unfold readyB
  rw [h1, p x hx, p y hy, q]; rfl
theorem elem_game {N x y : Nat} {s r : ByteArray} {C : List Int} {b1 tb : Bool} (h1 : validB N s r = true) (hC : C = stableL N s r) (hx : x < N) (hy : y < N) (ht : (C.getD x 0 == C.getD y 0) = tb) (hb : b1 = true ↔ readyB N s r [(x : Int), -1] N s r [(y : Int), -1] = true ∧ ∀ k, gameW true (gob.gr N s r) (gob.gr N s r) k (plc [(x : Int), -1]) (plc [(y : Int), -1])) : b1 = tb := by
  have hn := (validB_iff.1 h1).1
  have hn0 : 0 < N := by omega
  have hn8 : N ≤ 8 := by omega
  have htot : total [(⟨N, s, r⟩ : St)] = N := by simp [total]
  have hS := (stable_yes h1 rfl).1
  rw [← hC] at hS
  have e := cols_all_rounds (a := ⟨N, s, r⟩) (k := stab ⟨N, s, r⟩) hn0 hx hy (stab_stop ⟨N, s, r⟩ (by omega) (by omega))
  rw [← hS] at e
  have e2 := elem_iff (a := ⟨N, s, r⟩) hx hy
  refine Bool.eq_iff_iff.2 (hb.trans ((and_iff_right (one_ready h1 hx hy)).trans ?_))
  have p : ∀ z : Nat, plc [(z : Int), -1] = [z + 1, 0] := fun z => by simp [plc] <;> omega
  rw [p x, p y, ← ht, beq_iff_eq]
  exact (e.trans e2).symm
theorem reads_two (W : World) (a b : Int) : Reads (W.alloc (.cells #[.int .i64 a, .int .i64 b] 3)) (.slice (some ⟨W.heap.size, 0, none⟩) 2 2) [a, b] := by
  refine ⟨_, _, rfl, .inr ⟨_, 0, rfl, fun i hi => ?_⟩, fun h => by cases h⟩
  have h := heap_alloc_new W (.cells #[.int .i64 a, .int .i64 b] 3)
  rw [Nat.zero_add, cell_of_row _ _ i _ _ (0, 0) h]
  match i, hi with
  | 0, _ => rfl
  | 1, _ => rfl

set_option maxHeartbeats 40000000 in
set_option maxRecDepth 100000 in
theorem walk (a0 : Option Addr) (n0 c0 : Nat) (l0 : List Int) (a1 : Option Addr) (n1 c1 : Nat) (l1 : List Int) (w : World) (h0 : row.IsRow .u8 w a0 n0 c0 l0) (h1 : row.IsRow .u8 w a1 n1 c1 l1) :
    Calls Tryz.prog 6 #[.slice a0 n0 c0, .slice a1 n1 c1] w fun e w' => e = .returned (.bool true) ∧ Below w.heap.size w w' := by
  obtain ⟨by0, nc0, cm0⟩ := byt_of_row h0
  have BY0 := Lib.hid by0
  clear by0
  obtain ⟨by1, nc1, cm1⟩ := byt_of_row h1
  have BY1 := Lib.hid by1
  clear by1
  clear h0 h1
  by_cases hg0 : 1048576 < n0
  · go_enter Tryz.func6, Tryz.ntmps6
    go_wp2
    go_ret
    exact ⟨rfl, Below.refl _ _⟩
  by_cases hg1 : 1048576 < n1
  · go_enter Tryz.func6, Tryz.ntmps6
    go_wp2
    go_ret
    exact ⟨rfl, Below.refl _ _⟩
  go_enter Tryz.func6, Tryz.ntmps6
  have AW_0 : Hid (Below w.heap.size w w) := Below.refl _ _
  go_wp2_with fail
  refine (drawStable_any a0 n0 c0 _ BY0.out nc0 cm0).mono ?_
  rintro e w_1 ⟨n, s, r, rfl, hnw, hs, hr, hb⟩
  have hbn := hb
  have AW_1 : Hid (Below w.heap.size w w_1) := AW_0.out.trans (hbn.mono AW_0.out.size)
  clear hbn AW_0 
  have FA_1 : Hid (Box 24 (w_1.alloc (.cells #[.int .i64 n, .string s, .string r] 24)) (w_1.heap.size) n s r) := Box.new _ w_1 (w_1.heap.size) (by simp) _ _ _
  obtain ⟨a0, a1, a2⟩ := Box.c FA_1.out
  clear hb
  obtain ⟨kn, hkn⟩ : ∃ q, q = stableN n s r := ⟨_, rfl⟩
  obtain ⟨C, hC⟩ : ∃ q, q = stableL n s r := ⟨_, rfl⟩
  have HK := Lib.hid (show _ ∧ _ from ⟨hkn, hC⟩)
  have HLEN : Hid (C.length ≤ 8) := by rw [hC]; exact stable_len n s r
  clear hkn hC
  go_wp2_with fail
  clear a0 a1 a2
  refine (implStableColours_any n s r _ (by omega) (by omega)).mono ?_
  rintro e w_2 ⟨v, rfl, ho, hb⟩
  have hbn : Below w_1.heap.size w_1 w_2 := ((Below.refl w_1.heap.size w_1).alloc (by simp) (.cells #[.int .i64 n, .string s, .string r] 24)).trans (hb.mono (show w_1.heap.size ≤ _ by simp))
  have FA_2 := Lib.hid (FA_1.out.below hb (by simp))
  have AW_2 : Hid (Below w.heap.size w w_2) := AW_1.out.trans (hbn.mono AW_1.out.size)
  clear hbn AW_1 FA_1
  rw [← HK.out.2] at ho
  rw [← HK.out.1]
  have FL_2 := Lib.hid (ho)
  clear ho hb
  obtain ⟨a0, a1, a2⟩ := Box.c FA_2.out
  go_wp2_with fail
  clear a0 a1 a2
  refine (specStableColours_any n s r _ (by omega) (by omega)).mono ?_
  rintro e w_3 ⟨u, rfl, ho, hb⟩
  have hbn := hb
  have FA_3 := Lib.hid (FA_2.out.below hbn FA_2.out.lt)
  have FL_3 := Lib.hid (FL_2.out.below hbn (Nat.le_refl _))
  have AW_3 : Hid (Below w.heap.size w w_3) := AW_2.out.trans (hbn.mono AW_2.out.size)
  clear hbn AW_2 FA_2 FL_2
  rw [← HK.out.2] at ho
  rw [← HK.out.1]
  have FU_3 := Lib.hid (ho)
  clear ho hb
  obtain ⟨a0, a1, a2⟩ := Box.c FA_3.out
  go_wp2_with fail
  refine (gsSame_same _ _ C _ (OwnI.reads FL_3.out) (OwnI.reads FU_3.out) (by have := HLEN.out; omega)).mono ?_
  rintro e w_4 ⟨rfl, hb⟩
  have hbn := hb
  have FA_4 := Lib.hid (FA_3.out.below hbn FA_3.out.lt)
  have FL_4 := Lib.hid (FL_3.out.below hbn (Nat.le_refl _))
  have FU_4 := Lib.hid (FU_3.out.below hbn (Nat.le_refl _))
  have AW_4 : Hid (Below w.heap.size w w_4) := AW_3.out.trans (hbn.mono AW_3.out.size)
  clear hbn AW_3 FA_3 FL_3 FU_3
  clear hb
  clear a0 a1 a2
  cases hvt : validB n s r with
  | false =>
    have hk1 : kn = -1 := by rw [HK.out.1]; exact (stable_no hvt).2
    clear hvt HK
    subst hk1
    obtain ⟨a0, a1, a2⟩ := Box.c FA_4.out
    go_wp2_with fail
    clear a0 a1 a2
    refine (gsSame_same _ _ C _ (OwnI.reads FL_4.out) (OwnI.reads FU_4.out) (by have := HLEN.out; omega)).mono ?_
    rintro e w_5 ⟨rfl, hb⟩
    have hbn := hb
    have FA_5 := Lib.hid (FA_4.out.below hbn FA_4.out.lt)
    have FL_5 := Lib.hid (FL_4.out.below hbn (Nat.le_refl _))
    have FU_5 := Lib.hid (FU_4.out.below hbn (Nat.le_refl _))
    have AW_5 : Hid (Below w.heap.size w w_5) := AW_4.out.trans (hbn.mono AW_4.out.size)
    clear hbn AW_4 FA_4 FL_4 FU_4
    clear hb
    go_wp2
    go_ret
    exact ⟨rfl, AW_5.out⟩
  | true =>
    obtain ⟨N, rfl, hN1, hN8, hsN, hrN⟩ := valid_size hvt
    have HV := Lib.hid hvt
    have hkk : 0 ≤ kn := by rw [HK.out.1, (stable_yes hvt rfl).2]; omega
    have hkk2 : ¬ kn < 0 := by omega
    have HC := Lib.hid HK.out.2
    have HCl : Hid (C.length = N) := by rw [Hid, HC.out, (stable_yes hvt rfl).1]; exact one_len _ _
    have HSZ := Lib.hid (show _ ∧ _ from ⟨hs, hr⟩)
    clear hvt HK hsN hrN
    by_cases h6 : 6 < N
    · have i6 : (6 : Int) < (N : Int) := by omega
      obtain ⟨a0, a1, a2⟩ := Box.c FA_4.out
      go_wp2_with fail
      clear a0 a1 a2
      refine (gsSame_same _ _ C _ (OwnI.reads FL_4.out) (OwnI.reads FU_4.out) (by have := HLEN.out; omega)).mono ?_
      rintro e w_5 ⟨rfl, hb⟩
      have hbn := hb
      have FA_5 := Lib.hid (FA_4.out.below hbn FA_4.out.lt)
      have FL_5 := Lib.hid (FL_4.out.below hbn (Nat.le_refl _))
      have FU_5 := Lib.hid (FU_4.out.below hbn (Nat.le_refl _))
      have AW_5 : Hid (Below w.heap.size w w_5) := AW_4.out.trans (hbn.mono AW_4.out.size)
      clear hbn AW_4 FA_4 FL_4 FU_4
      clear hb
      go_wp2
      go_ret
      exact ⟨rfl, AW_5.out⟩
    · have i6 : ¬ (6 : Int) < (N : Int) := by omega
      obtain ⟨gv, cv, hv⟩ : ∃ gv cv, v = .slice (some ⟨gv, 0, none⟩) N cv := by
        rcases FL_4.out.shape with ⟨_, h0⟩ | ⟨g, cap, hv⟩
        · have := HCl.out; rw [h0] at this; simp at this; omega
        · exact ⟨g, cap, by rw [hv, HCl.out]⟩
      subst hv
      clear FU_4
      obtain ⟨HA, hHA⟩ : ∃ HA, HA = w_1.heap.size := ⟨_, rfl⟩
      have FAH : Hid (Box 24 w_4 HA N s r) := by rw [hHA]; exact FA_4.out
      obtain ⟨B0, HL0⟩ : ∃ B0, Hid (OwnI 3 w_4 B0 (.slice (some ⟨gv, 0, none⟩) N cv) C) := ⟨_, FL_4.out⟩
      obtain ⟨x, hx⟩ : ∃ x, x = n1 % N := ⟨_, rfl⟩
      have hxN : x < N := by rw [hx]; exact Nat.mod_lt _ (by omega)
      have y3 : (n1 : Int).tmod (N : Int) = (x : Int) := by rw [hx]; rfl
      have y4 : ¬ N = 0 := by omega
      obtain ⟨a0, a1, a2⟩ := Box.c FA_4.out
      have HHA := Lib.hid hHA
      clear hx hHA
      go_wp2_with fail
      rw [← HHA.out]
      have HS0 : Hid (Below w.heap.size w w_4 ∧ Box 24 w_4 HA N s r ∧ OwnI 3 w_4 B0 (.slice (some ⟨gv, 0, none⟩) N cv) C) := ⟨AW_4.out, FAH.out, HL0.out⟩
      clear AW_4 FA_4 FAH HL0 a0 a1 a2 y3 y4 FL_4 i6
      go_loopw [11] (fun yv wr => ∃ y : Nat, y ≤ N ∧ yv = .int .i64 y ∧ Hid (Below w.heap.size w wr ∧ Box 24 wr HA N s r ∧ OwnI 3 wr B0 (.slice (some ⟨gv, 0, none⟩) N cv) C)) (fun yv _ => N - (intOf yv).toNat)
      case atStart => exact ⟨0, Nat.zero_le _, rfl, HS0.out⟩
      case round =>
        clear HS0
        obtain ⟨y, hyN, rfl, HS⟩ := hrel
        obtain ⟨a0, a1, a2⟩ := HS.out.2.1.c
        by_cases hlt : y < N
        · have i1 : (y : Int) < (N : Int) := by omega
          have HY := Lib.hid hlt
          have HX := Lib.hid hxN
          go_upto_region 12 with (fail)
          clear a0 a1 a2
          go_cut [75] from 59 to 75 (fun tv wx => tv = .bool false ∧ Hid (Below w.heap.size w wx ∧ Box 24 wx HA N s r ∧ OwnI 3 wx B0 (.slice (some ⟨gv, 0, none⟩) N cv) C))
          case first =>
            have kx : Hid (wr.cell? ⟨gv, x, none⟩ = some (.int .i64 (C.getD x 0))) := HS.out.2.2.cell x (by rw [HCl.out]; exact hxN)
            have ky : Hid (wr.cell? ⟨gv, y, none⟩ = some (.int .i64 (C.getD y 0))) := HS.out.2.2.cell y (by rw [HCl.out]; exact hlt)
            obtain ⟨lx, hlx⟩ : ∃ lx, lx = C.getD x 0 := ⟨_, rfl⟩
            obtain ⟨ly, hly⟩ : ∃ ly, ly = C.getD y 0 := ⟨_, rfl⟩
            rw [← hlx] at kx
            rw [← hly] at ky
            obtain ⟨tb, htb⟩ : ∃ tb, (lx == ly) = tb := ⟨_, rfl⟩
            have HTB : Hid ((C.getD x 0 == C.getD y 0) = tb) := by rw [Hid, ← hlx, ← hly]; exact htb
            have tN : (tb != tb) = false := by simp
            clear hlx hly
            have HP0 : Hid (Box 24 wr HA N s r ∧ wr.cell? ⟨gv, x, none⟩ = some (.int .i64 lx) ∧ wr.cell? ⟨gv, y, none⟩ = some (.int .i64 ly)) := ⟨HS.out.2.1, kx.out, ky.out⟩
            clear kx ky
            have q0 : ∀ QQ : Wd (fun Q => Q.cell? ⟨HA, 0, none⟩ = some (.int .i64 N) ∧ Q.cell? ⟨HA, 1, none⟩ = some (.string s) ∧ Q.cell? ⟨HA, 2, none⟩ = some (.string r) ∧ Q.cell? ⟨gv, x, none⟩ = some (.int .i64 lx) ∧ Q.cell? ⟨gv, y, none⟩ = some (.int .i64 ly)), QQ.w.cell? ⟨HA, 0, none⟩ = some (.int .i64 N) := fun QQ => QQ.ok.1
            have q1 : ∀ QQ : Wd (fun Q => Q.cell? ⟨HA, 0, none⟩ = some (.int .i64 N) ∧ Q.cell? ⟨HA, 1, none⟩ = some (.string s) ∧ Q.cell? ⟨HA, 2, none⟩ = some (.string r) ∧ Q.cell? ⟨gv, x, none⟩ = some (.int .i64 lx) ∧ Q.cell? ⟨gv, y, none⟩ = some (.int .i64 ly)), QQ.w.cell? ⟨HA, 1, none⟩ = some (.string s) := fun QQ => QQ.ok.2.1
            have q2 : ∀ QQ : Wd (fun Q => Q.cell? ⟨HA, 0, none⟩ = some (.int .i64 N) ∧ Q.cell? ⟨HA, 1, none⟩ = some (.string s) ∧ Q.cell? ⟨HA, 2, none⟩ = some (.string r) ∧ Q.cell? ⟨gv, x, none⟩ = some (.int .i64 lx) ∧ Q.cell? ⟨gv, y, none⟩ = some (.int .i64 ly)), QQ.w.cell? ⟨HA, 2, none⟩ = some (.string r) := fun QQ => QQ.ok.2.2.1
            have q3 : ∀ QQ : Wd (fun Q => Q.cell? ⟨HA, 0, none⟩ = some (.int .i64 N) ∧ Q.cell? ⟨HA, 1, none⟩ = some (.string s) ∧ Q.cell? ⟨HA, 2, none⟩ = some (.string r) ∧ Q.cell? ⟨gv, x, none⟩ = some (.int .i64 lx) ∧ Q.cell? ⟨gv, y, none⟩ = some (.int .i64 ly)), QQ.w.cell? ⟨gv, x, none⟩ = some (.int .i64 lx) := fun QQ => QQ.ok.2.2.2.1
            have q4 : ∀ QQ : Wd (fun Q => Q.cell? ⟨HA, 0, none⟩ = some (.int .i64 N) ∧ Q.cell? ⟨HA, 1, none⟩ = some (.string s) ∧ Q.cell? ⟨HA, 2, none⟩ = some (.string r) ∧ Q.cell? ⟨gv, x, none⟩ = some (.int .i64 lx) ∧ Q.cell? ⟨gv, y, none⟩ = some (.int .i64 ly)), QQ.w.cell? ⟨gv, y, none⟩ = some (.int .i64 ly) := fun QQ => QQ.ok.2.2.2.2
            have hne : Nonempty (Wd (fun Q => Q.cell? ⟨HA, 0, none⟩ = some (.int .i64 N) ∧ Q.cell? ⟨HA, 1, none⟩ = some (.string s) ∧ Q.cell? ⟨HA, 2, none⟩ = some (.string r) ∧ Q.cell? ⟨gv, x, none⟩ = some (.int .i64 lx) ∧ Q.cell? ⟨gv, y, none⟩ = some (.int .i64 ly))) := ⟨⟨wr, ⟨HP0.out.1.c.1, HP0.out.1.c.2.1, HP0.out.1.c.2.2, HP0.out.2.1, HP0.out.2.2⟩⟩⟩
            go_wp2_with fail
            refine tree (S := (fun Q => Q.cell? ⟨HA, 0, none⟩ = some (.int .i64 N) ∧ Q.cell? ⟨HA, 1, none⟩ = some (.string s) ∧ Q.cell? ⟨HA, 2, none⟩ = some (.string r) ∧ Q.cell? ⟨gv, x, none⟩ = some (.int .i64 lx) ∧ Q.cell? ⟨gv, y, none⟩ = some (.int .i64 ly))) (Tr.two [true, true, true, true, true, true, true, true, true, true, true, false, true, true] 11 (Tr.one [] 14 (Tr.one [] 15 (Tr.leaf [false, false, false, false, false, false, false, false, false, false, false, false, false, false, false, false, true]))) 14 (Tr.one [] 11 (Tr.one [] 15 (Tr.leaf [false, false, false, false, false, false, false, false, false, false, false, false, false, false, false, false, true])))) (by kernel_rfl) (by kernel_rfl) (by kernel_rfl) ⟨HP0.out.1.c.1, HP0.out.1.c.2.1, HP0.out.1.c.2.2, HP0.out.2.1, HP0.out.2.2⟩ ?_
            simp only [wpTr, pickB, List.toList_toArray, List.getElem?_toArray, List.getElem?_cons_succ, List.getElem?_cons_zero, Option.toList_some]
            repeat (go_big_quiet_step (fail))
            refine wpQuiet_nil ?_
            constructor
            · intro K hK
              obtain ⟨V1, hV1⟩ : ∃ V1, V1 = (wr.alloc (.cells #[.int .i64 x, .int .i64 (-1)] 3)).drew := ⟨_, rfl⟩
              have hb1 : Below wr.heap.size wr V1 := by rw [hV1]; exact ((Below.refl _ _).alloc (Nat.le_refl _) _).drew
              have HP1 : Hid (Box 24 V1 HA N s r ∧ V1.cell? ⟨gv, x, none⟩ = some (.int .i64 lx) ∧ V1.cell? ⟨gv, y, none⟩ = some (.int .i64 ly)) := ⟨HP0.out.1.below hb1 HP0.out.1.lt, ins.keepCell hb1 HP0.out.2.1, ins.keepCell hb1 HP0.out.2.2⟩
              have RF1 : Hid (Reads V1 (.slice (some ⟨wr.heap.size, 0, none⟩) 2 2) [(x : Int), -1]) := by rw [hV1]; exact (reads_two wr _ _).below (Below.refl _ _).drew (Nat.le_refl _)
              have HB1 := Lib.hid hb1
              go_wp2_with fail
              rw [← hV1]
              refine hK _ _ ⟨HP1.out.1.c.1, HP1.out.1.c.2.1, HP1.out.1.c.2.2, HP1.out.2.1, HP1.out.2.2⟩ ?_
              clear hK K hV1 hb1
              repeat (go_big_quiet_step (fail))
              refine wpQuiet_nil ?_
              intro K hK
              obtain ⟨V2, hV2⟩ : ∃ V2, V2 = V1.alloc (.cells #[.int .i64 y, .int .i64 (-1)] 3) := ⟨_, rfl⟩
              have hb2 : Below V1.heap.size V1 V2 := by rw [hV2]; exact (Below.refl _ _).alloc (Nat.le_refl _) _
              have HP2 : Hid (Box 24 V2 HA N s r ∧ V2.cell? ⟨gv, x, none⟩ = some (.int .i64 lx) ∧ V2.cell? ⟨gv, y, none⟩ = some (.int .i64 ly)) := ⟨HP1.out.1.below hb2 HP1.out.1.lt, ins.keepCell hb2 HP1.out.2.1, ins.keepCell hb2 HP1.out.2.2⟩
              have RG2 : Hid (Reads V2 (.slice (some ⟨V1.heap.size, 0, none⟩) 2 2) [(y : Int), -1]) := by rw [hV2]; exact reads_two V1 _ _
              have RF2 := Lib.hid (RF1.out.below hb2 (Nat.le_refl _))
              have HB2 : Hid (Below wr.heap.size wr V2) := HB1.out.trans (hb2.mono HB1.out.size)
              go_wp2_with fail
              rw [← hV2]
              refine hK _ _ ⟨HP2.out.1.c.1, HP2.out.1.c.2.1, HP2.out.1.c.2.2, HP2.out.2.1, HP2.out.2.2⟩ ?_
              clear hK K hV2 hb2 HP1 RF1 HB1
              repeat (go_big_quiet_step (fail))
              refine wpQuiet_nil ?_
              intro K hK
              go_wp2_with fail
              refine (cEver_any N s r _ [(x : Int), -1] N s r _ [(y : Int), -1] _ RF2.out RG2.out (by simp) (by simp) (by have := HSZ.out; omega) (by have := HSZ.out; omega) (by have := HSZ.out; omega) (by have := HSZ.out; omega)).mono ?_
              rintro e V3 ⟨b1, rfl, hbb, hb3⟩
              have e1 : b1 = tb := elem_game HV.out HC.out HX.out HY.out HTB.out hbb
              subst e1
              have HP3 : Hid (Box 24 V3 HA N s r ∧ V3.cell? ⟨gv, x, none⟩ = some (.int .i64 lx) ∧ V3.cell? ⟨gv, y, none⟩ = some (.int .i64 ly)) := ⟨HP2.out.1.below hb3 HP2.out.1.lt, ins.keepCell hb3 HP2.out.2.1, ins.keepCell hb3 HP2.out.2.2⟩
              have HB3 : Hid (Below wr.heap.size wr V3) := HB2.out.trans (hb3.mono HB2.out.size)
              clear hbb hb3 HP2 HB2
              go_wp2_with fail
              refine hK _ _ ⟨HP3.out.1.c.1, HP3.out.1.c.2.1, HP3.out.1.c.2.2, HP3.out.2.1, HP3.out.2.2⟩ ?_
              clear hK K
              repeat (go_big_quiet_step (fail))
              refine wpQuiet_nil ?_
              go_wp2_with fail
              go_meet
              exact ⟨rfl, HS.out.1.trans (HB3.out.mono HS.out.1.size), HS.out.2.1.below HB3.out HS.out.2.1.lt, HS.out.2.2.below HB3.out (Nat.le_refl _)⟩
            · intro K hK
              obtain ⟨V1, hV1⟩ : ∃ V1, V1 = (wr.alloc (.cells #[.int .i64 y, .int .i64 (-1)] 3)).drew := ⟨_, rfl⟩
              have hb1 : Below wr.heap.size wr V1 := by rw [hV1]; exact ((Below.refl _ _).alloc (Nat.le_refl _) _).drew
              have HP1 : Hid (Box 24 V1 HA N s r ∧ V1.cell? ⟨gv, x, none⟩ = some (.int .i64 lx) ∧ V1.cell? ⟨gv, y, none⟩ = some (.int .i64 ly)) := ⟨HP0.out.1.below hb1 HP0.out.1.lt, ins.keepCell hb1 HP0.out.2.1, ins.keepCell hb1 HP0.out.2.2⟩
              have RF1 : Hid (Reads V1 (.slice (some ⟨wr.heap.size, 0, none⟩) 2 2) [(y : Int), -1]) := by rw [hV1]; exact (reads_two wr _ _).below (Below.refl _ _).drew (Nat.le_refl _)
              have HB1 := Lib.hid hb1
              go_wp2_with fail
              rw [← hV1]
              refine hK _ _ ⟨HP1.out.1.c.1, HP1.out.1.c.2.1, HP1.out.1.c.2.2, HP1.out.2.1, HP1.out.2.2⟩ ?_
              clear hK K hV1 hb1
              repeat (go_big_quiet_step (fail))
              refine wpQuiet_nil ?_
              intro K hK
              obtain ⟨V2, hV2⟩ : ∃ V2, V2 = V1.alloc (.cells #[.int .i64 x, .int .i64 (-1)] 3) := ⟨_, rfl⟩
              have hb2 : Below V1.heap.size V1 V2 := by rw [hV2]; exact (Below.refl _ _).alloc (Nat.le_refl _) _
              have HP2 : Hid (Box 24 V2 HA N s r ∧ V2.cell? ⟨gv, x, none⟩ = some (.int .i64 lx) ∧ V2.cell? ⟨gv, y, none⟩ = some (.int .i64 ly)) := ⟨HP1.out.1.below hb2 HP1.out.1.lt, ins.keepCell hb2 HP1.out.2.1, ins.keepCell hb2 HP1.out.2.2⟩
              have RG2 : Hid (Reads V2 (.slice (some ⟨V1.heap.size, 0, none⟩) 2 2) [(x : Int), -1]) := by rw [hV2]; exact reads_two V1 _ _
              have RF2 := Lib.hid (RF1.out.below hb2 (Nat.le_refl _))
              have HB2 : Hid (Below wr.heap.size wr V2) := HB1.out.trans (hb2.mono HB1.out.size)
              go_wp2_with fail
              rw [← hV2]
              refine hK _ _ ⟨HP2.out.1.c.1, HP2.out.1.c.2.1, HP2.out.1.c.2.2, HP2.out.2.1, HP2.out.2.2⟩ ?_
              clear hK K hV2 hb2 HP1 RF1 HB1
              repeat (go_big_quiet_step (fail))
              refine wpQuiet_nil ?_
              intro K hK
              go_wp2_with fail
              refine (cEver_any N s r _ [(x : Int), -1] N s r _ [(y : Int), -1] _ RG2.out RF2.out (by simp) (by simp) (by have := HSZ.out; omega) (by have := HSZ.out; omega) (by have := HSZ.out; omega) (by have := HSZ.out; omega)).mono ?_
              rintro e V3 ⟨b1, rfl, hbb, hb3⟩
              have e1 : b1 = tb := elem_game HV.out HC.out HX.out HY.out HTB.out hbb
              subst e1
              have HP3 : Hid (Box 24 V3 HA N s r ∧ V3.cell? ⟨gv, x, none⟩ = some (.int .i64 lx) ∧ V3.cell? ⟨gv, y, none⟩ = some (.int .i64 ly)) := ⟨HP2.out.1.below hb3 HP2.out.1.lt, ins.keepCell hb3 HP2.out.2.1, ins.keepCell hb3 HP2.out.2.2⟩
              have HB3 : Hid (Below wr.heap.size wr V3) := HB2.out.trans (hb3.mono HB2.out.size)
              clear hbb hb3 HP2 HB2
              go_wp2_with fail
              refine hK _ _ ⟨HP3.out.1.c.1, HP3.out.1.c.2.1, HP3.out.1.c.2.2, HP3.out.2.1, HP3.out.2.2⟩ ?_
              clear hK K
              repeat (go_big_quiet_step (fail))
              refine wpQuiet_nil ?_
              go_wp2_with fail
              go_meet
              exact ⟨rfl, HS.out.1.trans (HB3.out.mono HS.out.1.size), HS.out.2.1.below HB3.out HS.out.2.1.lt, HS.out.2.2.below HB3.out (Nat.le_refl _)⟩
          case rest =>
            obtain ⟨rfl, hst⟩ := hcut
            clear HS
            go_wp2
            go_roundw
            case rel => exact ⟨y + 1, by omega, by go_num, hst.out⟩
            case measure => simp [intOf]; omega
        · obtain rfl : N = y := by omega
          go_wp2
          go_ret
          exact ⟨rfl, HS.out.1⟩
end Go.Proofs.YtpcnoiigbmiejaaGreatDoor.fnElementsCountingW
