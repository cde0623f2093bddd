/- FnDistanceOf: the walk. -/
import Derived.Test.YtlnmebjbinmeiaaDoorDrawF
import Derived.Test.YtlnmebjbinmeiaaDoorLeast
import Derived.Test.YtlnmebjbinmeiaaDoorDistO
import Derived.Test.YtlnmebjbinmeiaaDoorPieces
import Derived.Test.YtlnmebjbinmeiaaDoorRow
namespace Go.Proofs.YtlnmebjbinmeiaaDoor.fnDistW
set_option linter.unusedVariables false
set_option linter.unusedSimpArgs false
open Go.ChangeShapes Go.WideShapes Go.ChangeAt Go.RowKit
open Go.Proofs.YtlnmebjbinmeiaaDoor.flow Go.Proofs.YtlnmebjbinmeiaaDoor.lib Go.Proofs.YtlnmebjbinmeiaaDoor.st Go.Proofs.YtlnmebjbinmeiaaDoor.draw Go.Proofs.YtlnmebjbinmeiaaDoor.base Go.Proofs.YtlnmebjbinmeiaaDoor.near Go.Proofs.YtlnmebjbinmeiaaDoor.dist Go.Proofs.YtlnmebjbinmeiaaDoor.pieces Go.Proofs.YtlnmebjbinmeiaaDoor.cls Go.Proofs.YtlnmebjbinmeiaaDoor.chain
/-- bytes that came in may be drawn from -/
theorem byt_of_row {w : World} {a : Option Addr} {n c : Nat} {zs : List Int} (h : row.IsRow .u8 w a n c zs) : Byt w w.heap.size a n ∧ n ≤ c ∧ c ≤ 9223372036854775807 := by
  rcases h with ⟨rfl, rfl, rfl, rfl⟩ | ⟨x, rfl, hl, hm, hz, hcell, hwf⟩
  · exact ⟨.inl rfl, Nat.le_refl _, by omega⟩
  · refine ⟨?_, hl, hm⟩
    by_cases h0 : n = 0
    · exact .inl h0
    · obtain ⟨b, off, spot⟩ := x
      have hc := hcell 0 (by omega)
      have hspot : spot = none := by simpa [Addr.add] using World.cell?_spot hc
      subst hspot
      have hlt := World.block_lt_of_cell? w _ hc
      refine .inr ⟨b, off, rfl, by simpa [Addr.add] using hlt, fun i hi => ?_⟩
      have hci := hcell i (by omega)
      have hw := hwf (zs.getD i 0) (by rw [List.getD_eq_getElem?_getD, List.getElem?_eq_getElem (by omega)]; exact List.getElem_mem _)
      have hb : 0 ≤ zs.getD i 0 ∧ zs.getD i 0 ≤ 255 := by
        generalize zs.getD i 0 = z at hw ⊢
        simp only [Lit.wf, IntKind.min, IntKind.max, IntKind.signed, IntKind.bits, Bool.and_eq_true, decide_eq_true_eq] at hw
        simp at hw
        omega
      refine ⟨(zs.getD i 0).toNat, by omega, ?_⟩
      rw [show (⟨b, off, none⟩ : Addr).add i = ⟨b, off + i, none⟩ from by simp only [Addr.add]; split <;> simp [*]] at hci
      rw [hci, show (((zs.getD i 0).toNat : Nat) : Int) = zs.getD i 0 from by omega]

theorem ofDrew {w w' : World} (h : Below w.drew.heap.size w.drew w') : Below w.heap.size w w' := by
  cases h; constructor <;> assumption
/-- the spot of a list's members -/
theorem spot {w : World} {ao : Option Addr} {nl cl : Nat} {l : List Int} (h : Reads w (.slice ao nl cl) l) (hl : nl = l.length) (h1 : 1 ≤ nl) :
    ∃ b off, ao = some ⟨b, off, none⟩ ∧ ∀ i, i < nl → w.cell? ⟨b, off + i, none⟩ = some (.int .i64 (l.getD i 0)) := by
  obtain ⟨ao', c', hv', hc', _⟩ := h
  simp only [Value.slice.injEq] at hv'
  rcases hc' with h | ⟨b, off, he, hc⟩
  · rw [h] at hl; simp at hl; omega
  · exact ⟨b, off, hv'.1.trans he, fun i hi => hc i (by omega)⟩
/-- the contracts at a valid structure -/
structure Con (N : Nat) (s r : ByteArray) : Prop where
  d : ∀ (A B : Nat) (d : Int), A < N → B < N → D (adj N r) N A B = d → ∀ W : World, Calls Tryd.prog 45 #[.agg #[.int .i64 N, .string s, .string r], .int .i64 A, .int .i64 B] W fun e w' => e = .returned (.int .i64 d) ∧ Below W.heap.size W w'
  e : ∀ (A B : Nat) (d : Int), A < N → B < N → D (adj N r) N A B = d → ∀ W : World, Calls Tryd.prog 46 #[.agg #[.int .i64 N, .string s, .string r], .int .i64 A, .int .i64 B] W fun e w' => e = .returned (.int .i64 d) ∧ Below W.heap.size W w'
  n : ∀ (A : Nat), A < N → ∀ W : World, Calls Tryd.prog 47 #[.agg #[.int .i64 N, .string s, .string r], .int .i64 A] W fun e w' => ∃ v, e = .returned v ∧ OwnI 3 w' W.heap.size v (nearTo N r A N) ∧ Below W.heap.size W w'
  p : ∀ W : World, Calls Tryd.prog 21 #[.agg #[.int .i64 N, .string s, .string r]] W fun e w' => ∃ v, e = .returned v ∧ OwnI 3 w' W.heap.size v (clsOf (conn N r) N).1 ∧ Below W.heap.size W w'
theorem con {N : Nat} {s r : ByteArray} (hv : validB N s r = true) (hw : (Lit.int .i64 (N : Int)).wf = true) (hs : s.size ≤ 100) (hr : r.size ≤ 100) : Con N s r := by
  have el : ∀ A : Nat, A < N → elemB N s r A = true := fun A hA => elemB_iff.2 ⟨hv, by omega, by omega⟩
  have dR : ∀ A B : Nat, A < N → B < N → distR N s r A B = D (adj N r) N A B := by
    intro A B hA hB
    unfold distR
    rw [if_pos (el A hA), if_pos (el B hB)]
    rfl
  have nR : ∀ A : Nat, A < N → nearR N s r A = nearTo N r A N := by
    intro A hA
    unfold nearR
    rw [if_pos (el A hA)]
    rfl
  have pR : piecesR N s r = (clsOf (conn N r) N).1 := by
    unfold piecesR
    rw [if_pos hv]
    rfl
  refine ⟨fun A B d hA hB hd W => ?_, fun A B d hA hB hd W => ?_, fun A hA W => ?_, fun W => ?_⟩
  · have h := implDistanceOf_any N s r A B W (by omega) (by omega)
    rw [dR A B hA hB, hd] at h; exact h
  · have h := specDistanceOf_any N s r A B W hw (by omega) (by omega)
    rw [dR A B hA hB, hd] at h; exact h
  · have h := implNearOf_any N s r A W (by omega) (by omega)
    rw [nR A hA] at h; exact h
  · have h := implPieces_any N s r W (by omega) (by omega)
    rw [pR] at h; exact h

set_option maxHeartbeats 40000000 in
set_option maxRecDepth 100000 in
theorem walk (a0 : Option Addr) (n0 c0 : Nat) (l0 : List Int) (a1 : Option Addr) (n1 c1 : Nat) (l1 : List Int) (w : World) (h0 : row.IsRow .u8 w a0 n0 c0 l0) (h1 : row.IsRow .u8 w a1 n1 c1 l1) :
    Calls Tryd.prog 11 #[.slice a0 n0 c0, .slice a1 n1 c1] w fun e w' => e = .returned (.bool true) ∧ Below w.heap.size w w' := by
  obtain ⟨by0, nc0, cm0⟩ := byt_of_row h0
  have BY0 := Lib.hid by0
  clear by0 h0 h1
  by_cases hg0 : 1048576 < n0
  · go_enter Tryd.func11, Tryd.ntmps11
    go_wp2
    go_ret
    exact ⟨rfl, Below.refl _ _⟩
  by_cases hg1 : 1048576 < n1
  · go_enter Tryd.func11, Tryd.ntmps11
    go_wp2
    go_ret
    exact ⟨rfl, Below.refl _ _⟩
  go_enter Tryd.func11, Tryd.ntmps11
  have AW_0 : Hid (Below w.heap.size w w) := Below.refl _ _
  go_wp2_with fail
  refine (drawDistance_any a0 n0 c0 _ BY0.out nc0 cm0).mono ?_
  rintro e w_1 ⟨n, s, r, x, y, rfl, hnw, hs, hr, hxw, hyw, hb⟩
  have hbn := hb
  have AW_1 : Hid (Below w.heap.size w w_1) := AW_0.out.trans (hbn.mono AW_0.out.size)
  clear hbn AW_0 
  have FA_1 : Hid (Box 25 (w_1.alloc (.cells #[.int .i64 n, .string s, .string r] 25)) w_1.heap.size n s r) := Box.new _ _ _ rfl _ _ _
  obtain ⟨a0, a1, a2⟩ := Box.c FA_1.out
  clear hb
  by_cases hv : (elemB n s r x && elemB n s r y) = false
  · have hd : distR n s r x y = -2 := by
      unfold distR
      cases h1 : elemB n s r x <;> cases h2 : elemB n s r y <;> simp_all
    have CI : Hid (∀ W : World, Calls Tryd.prog 45 #[.agg #[.int .i64 n, .string s, .string r], .int .i64 x, .int .i64 y] W fun e w' => e = .returned (.int .i64 (-2)) ∧ Below W.heap.size W w') := fun W => by
      have h := implDistanceOf_any n s r x y W (by omega) (by omega)
      rw [hd] at h; exact h
    have CS : Hid (∀ W : World, Calls Tryd.prog 46 #[.agg #[.int .i64 n, .string s, .string r], .int .i64 x, .int .i64 y] W fun e w' => e = .returned (.int .i64 (-2)) ∧ Below W.heap.size W w') := fun W => by
      have h := specDistanceOf_any n s r x y W hnw (by omega) (by omega)
      rw [hd] at h; exact h
    clear hd hv hnw hxw hyw
    go_wp2_with fail
    clear a0 a1 a2
    refine (CI.out _).mono ?_
    rintro e w_2 ⟨rfl, hb⟩
    have hbn : Below w_1.heap.size w_1 w_2 := ((Below.refl _ w_1).alloc (Nat.le_refl _) _).trans (hb.mono (by simp))
    have FA_2 := Lib.hid (FA_1.out.below hb (by simp))
    have AW_2 : Hid (Below w.heap.size w w_2) := AW_1.out.trans (hbn.mono AW_1.out.size)
    clear hbn AW_1 FA_1
    clear hb
    obtain ⟨a0, a1, a2⟩ := Box.c FA_2.out
    go_wp2_with fail
    clear a0 a1 a2
    refine (CS.out _).mono ?_
    rintro e w_3 ⟨rfl, hb⟩
    have hbn := hb
    have FA_3 := Lib.hid (FA_2.out.below hbn FA_2.out.lt)
    have AW_3 : Hid (Below w.heap.size w w_3) := AW_2.out.trans (hbn.mono AW_2.out.size)
    clear hbn AW_2 FA_2
    clear hb
    obtain ⟨a0, a1, a2⟩ := Box.c FA_3.out
    go_wp2_with fail
    clear a0 a1 a2
    refine (CS.out _).mono ?_
    rintro e w_4 ⟨rfl, hb⟩
    have hbn := hb
    have FA_4 := Lib.hid (FA_3.out.below hbn FA_3.out.lt)
    have AW_4 : Hid (Below w.heap.size w w_4) := AW_3.out.trans (hbn.mono AW_3.out.size)
    clear hbn AW_3 FA_3
    clear hb
    obtain ⟨a0, a1, a2⟩ := Box.c FA_4.out
    go_wp2
    go_ret
    exact ⟨rfl, AW_4.out⟩
  have hv2 : elemB n s r x = true ∧ elemB n s r y = true := by simpa using hv
  obtain ⟨hvx, hvy⟩ := hv2
  clear hv
  obtain ⟨N, X, rfl, rfl, hX, hN8, hsN, hrN⟩ := valid_nat hvx
  obtain ⟨Y, rfl⟩ : ∃ Y : Nat, y = Y := ⟨y.toNat, by have := (elemB_iff.1 hvy).2; omega⟩
  have hY : Y < N := by have := (elemB_iff.1 hvy).2; omega
  have CO := Lib.hid (con (elemB_iff.1 hvx).1 hnw hs hr)
  obtain ⟨d, hd⟩ : ∃ d : Int, D (adj N r) N X Y = d := ⟨_, rfl⟩
  have hlo : -1 ≤ d := by rw [← hd]; exact D_lo hX hY
  have hhi : d < N := by rw [← hd]; exact D_small hX hY
  have hd := Lib.hid hd
  clear hvx hvy hnw hxw hyw
  have td : decide (d < -1) = false := by simp; omega
  go_wp2_with fail
  clear a0 a1 a2
  refine (CO.out.d X Y d hX hY hd.out _).mono ?_
  rintro e w_2 ⟨rfl, hb⟩
  have hbn : Below w_1.heap.size w_1 w_2 := ((Below.refl _ w_1).alloc (Nat.le_refl _) _).trans (hb.mono (by simp))
  have FA_2 := Lib.hid (FA_1.out.below hb (by simp))
  have AW_2 : Hid (Below w.heap.size w w_2) := AW_1.out.trans (hbn.mono AW_1.out.size)
  clear hbn AW_1 FA_1
  clear hb
  obtain ⟨a0, a1, a2⟩ := Box.c FA_2.out
  go_wp2_with fail
  clear a0 a1 a2
  refine (CO.out.e X Y d hX hY hd.out _).mono ?_
  rintro e w_3 ⟨rfl, hb⟩
  have hbn := hb
  have FA_3 := Lib.hid (FA_2.out.below hbn FA_2.out.lt)
  have AW_3 : Hid (Below w.heap.size w w_3) := AW_2.out.trans (hbn.mono AW_2.out.size)
  clear hbn AW_2 FA_2
  clear hb
  obtain ⟨a0, a1, a2⟩ := Box.c FA_3.out
  go_wp2_with fail
  clear a0 a1 a2
  refine (CO.out.n Y hY _).mono ?_
  rintro e w_4 ⟨v, rfl, ho, hb⟩
  have hbn := hb
  have FA_4 := Lib.hid (FA_3.out.below hbn FA_3.out.lt)
  have AW_4 : Hid (Below w.heap.size w w_4) := AW_3.out.trans (hbn.mono AW_3.out.size)
  clear hbn AW_3 FA_3
  have FL_4 := Lib.hid (ho)
  clear ho hb td
  obtain ⟨ao, cl, hv⟩ := FL_4.out.reads.len
  obtain ⟨nl, hnl⟩ : ∃ q, q = (nearTo N r Y N).length := ⟨_, rfl⟩
  have hnl8 : nl ≤ 8 := by rw [hnl]; have := nearTo_len N r Y N; omega
  rw [← hnl] at hv
  subst hv
  have hnl := Lib.hid hnl
  go_wp2_with fail
  go_loopw [10, 11] (fun lst i wr => ∃ (j : Nat) (m : Int), j ≤ nl ∧ i = .int .i64 j ∧ lst = .int .i64 m ∧ Least (D (adj N r) N X) (nearTo N r Y N) j m ∧ Below w.heap.size w wr ∧ Box 25 wr w_1.heap.size N s r ∧ OwnI 3 wr w_3.heap.size (.slice ao nl cl) (nearTo N r Y N)) (fun _ i _ => nl - (intOf i).toNat)
  case atStart => exact ⟨0, -1, Nat.zero_le _, rfl, rfl, .inl ⟨rfl, fun i hi => absurd hi (Nat.not_lt_zero _)⟩, AW_4.out, FA_4.out, FL_4.out⟩
  case round =>
    clear AW_4 FA_4 FL_4
    obtain ⟨j, m, hj, rfl, rfl, hLst, hbl, hbx, hown⟩ := hrel
    have HQ := Lib.hid (show _ ∧ _ ∧ _ ∧ _ from ⟨hLst, hbl, hbx, hown⟩)
    obtain ⟨a0, a1, a2⟩ := hbx.c
    have RDS := Lib.hid hown.reads
    clear hLst hbl hbx hown
    by_cases hjn : j < nl
    · obtain ⟨b, off, rfl, hc⟩ := spot RDS.out hnl.out (by omega)
      obtain ⟨Z, hZ, hZN, hadj⟩ := nearTo_get (n := N) (r := r) (v := Y) (k := j) (by rw [← hnl.out]; exact hjn)
      have ck := hc j hjn
      rw [hZ] at ck
      obtain ⟨f, hf⟩ : ∃ f : Int, D (adj N r) N X Z = f := ⟨_, rfl⟩
      have hbw : b < wr.heap.size := World.block_lt_of_cell? wr _ ck
      have HF := Lib.hid (show _ ∧ _ from ⟨hZ, hf⟩)
      clear hc hadj hZ hf RDS

      have qc0 : ∀ QQ : Wd (fun Q => Q.cell? ⟨w_1.heap.size, 0, none⟩ = some (.int .i64 N) ∧ Q.cell? ⟨w_1.heap.size, 1, none⟩ = some (.string s) ∧ Q.cell? ⟨w_1.heap.size, 2, none⟩ = some (.string r) ∧ Q.cell? ⟨b, off + j, none⟩ = some (.int .i64 Z)), QQ.w.cell? ⟨w_1.heap.size, 0, none⟩ = some (.int .i64 N) := fun QQ => QQ.ok.1
      have qc1 : ∀ QQ : Wd (fun Q => Q.cell? ⟨w_1.heap.size, 0, none⟩ = some (.int .i64 N) ∧ Q.cell? ⟨w_1.heap.size, 1, none⟩ = some (.string s) ∧ Q.cell? ⟨w_1.heap.size, 2, none⟩ = some (.string r) ∧ Q.cell? ⟨b, off + j, none⟩ = some (.int .i64 Z)), QQ.w.cell? ⟨w_1.heap.size, 1, none⟩ = some (.string s) := fun QQ => QQ.ok.2.1
      have qc2 : ∀ QQ : Wd (fun Q => Q.cell? ⟨w_1.heap.size, 0, none⟩ = some (.int .i64 N) ∧ Q.cell? ⟨w_1.heap.size, 1, none⟩ = some (.string s) ∧ Q.cell? ⟨w_1.heap.size, 2, none⟩ = some (.string r) ∧ Q.cell? ⟨b, off + j, none⟩ = some (.int .i64 Z)), QQ.w.cell? ⟨w_1.heap.size, 2, none⟩ = some (.string r) := fun QQ => QQ.ok.2.2.1
      have qc3 : ∀ QQ : Wd (fun Q => Q.cell? ⟨w_1.heap.size, 0, none⟩ = some (.int .i64 N) ∧ Q.cell? ⟨w_1.heap.size, 1, none⟩ = some (.string s) ∧ Q.cell? ⟨w_1.heap.size, 2, none⟩ = some (.string r) ∧ Q.cell? ⟨b, off + j, none⟩ = some (.int .i64 Z)), QQ.w.cell? ⟨b, off + j, none⟩ = some (.int .i64 Z) := fun QQ => QQ.ok.2.2.2
      have hne : Nonempty (Wd (fun Q => Q.cell? ⟨w_1.heap.size, 0, none⟩ = some (.int .i64 N) ∧ Q.cell? ⟨w_1.heap.size, 1, none⟩ = some (.string s) ∧ Q.cell? ⟨w_1.heap.size, 2, none⟩ = some (.string r) ∧ Q.cell? ⟨b, off + j, none⟩ = some (.int .i64 Z))) := ⟨⟨wr, ⟨a0, a1, a2, ck⟩⟩⟩
      go_wp2_with fail
      refine chain (S := (fun Q => Q.cell? ⟨w_1.heap.size, 0, none⟩ = some (.int .i64 N) ∧ Q.cell? ⟨w_1.heap.size, 1, none⟩ = some (.string s) ∧ Q.cell? ⟨w_1.heap.size, 2, none⟩ = some (.string r) ∧ Q.cell? ⟨b, off + j, none⟩ = some (.int .i64 Z))) [([true, true, true, true, true, true], 6)] [false, false, false, false, false, false, false, true] (by kernel_rfl) (by kernel_rfl) (by kernel_rfl) ⟨a0, a1, a2, ck⟩ ?_
      simp only [wpSegs, pickB, List.dropLast_cons_cons, List.dropLast_singleton, List.getLast?_cons_cons, List.getLast?_singleton, List.toList_toArray, List.getElem?_toArray, List.getElem?_cons_succ, List.getElem?_cons_zero, Option.toList_some]
      repeat (go_big_quiet_step (fail))
      refine wpQuiet_nil ?_
      intro K hK
      go_wp2_with fail
      refine (CO.out.d X Z f hX hZN HF.out.2 _).mono ?_
      rintro e w9 ⟨rfl, hb⟩
      have hb9 := ofDrew hb
      have HN := Lib.hid (show _ ∧ _ ∧ _ from ⟨HQ.out.2.1.trans (hb9.mono HQ.out.2.1.size), HQ.out.2.2.1.below hb9 HQ.out.2.2.1.lt, HQ.out.2.2.2.below hb9 (Nat.le_refl _)⟩)
      have ck9 := (hb9.cell hbw).trans ck
      clear hb hb9
      go_wp2_with fail
      refine hK _ _ ⟨HN.out.2.1.c.1, HN.out.2.1.c.2.1, HN.out.2.1.c.2.2, ck9⟩ ?_
      clear hK K
      repeat (go_big_quiet_step (fail))
      refine wpQuiet_nil ?_
      clear qc0 qc1 qc2 qc3 hne ck ck9 a0 a1 a2
      by_cases hf0 : f < 0
      · have t1 : decide (0 ≤ f) = false := by simp; omega
        have LS : Hid (Least (D (adj N r) N X) (nearTo N r Y N) (j + 1) m) := HQ.out.1.keep HF.out.1 (by rw [HF.out.2]; omega)
        go_wp2
        go_roundw
        case rel => exact ⟨j + 1, m, by omega, by go_num, rfl, LS.out, HN.out.1, HN.out.2.1, HN.out.2.2⟩
        case measure => simp [intOf]; omega
      · have t1 : decide (0 ≤ f) = true := by simp; omega
        by_cases hm0 : m < 0
        · have t2 : decide (m < 0) = true := by simp; omega
          have LS : Hid (Least (D (adj N r) N X) (nearTo N r Y N) (j + 1) f) := by have := HQ.out.1.take HF.out.1 (by rw [HF.out.2]; omega) (by rw [HF.out.2]; omega); rw [HF.out.2] at this; exact this
          go_wp2
          go_roundw
          case rel => exact ⟨j + 1, f, by omega, by go_num, rfl, LS.out, HN.out.1, HN.out.2.1, HN.out.2.2⟩
          case measure => simp [intOf]; omega
        · have t2 : decide (m < 0) = false := by simp; omega
          by_cases hfm : f < m
          · have t3 : decide (f < m) = true := by simp; omega
            have LS : Hid (Least (D (adj N r) N X) (nearTo N r Y N) (j + 1) f) := by have := HQ.out.1.take HF.out.1 (by rw [HF.out.2]; omega) (by rw [HF.out.2]; omega); rw [HF.out.2] at this; exact this
            go_wp2
            go_roundw
            case rel => exact ⟨j + 1, f, by omega, by go_num, rfl, LS.out, HN.out.1, HN.out.2.1, HN.out.2.2⟩
            case measure => simp [intOf]; omega
          · have t3 : decide (f < m) = false := by simp; omega
            have LS : Hid (Least (D (adj N r) N X) (nearTo N r Y N) (j + 1) m) := HQ.out.1.keep HF.out.1 (by rw [HF.out.2]; omega)
            go_wp2
            go_roundw
            case rel => exact ⟨j + 1, m, by omega, by go_num, rfl, LS.out, HN.out.1, HN.out.2.1, HN.out.2.2⟩
            case measure => simp [intOf]; omega
    · obtain rfl : nl = j := by omega
      have hz : ∃ Z : Nat, Z < N ∧ Int.tmod (n1 : Int) (N : Int) = (Z : Int) := ⟨n1 % N, Nat.mod_lt _ (by omega), rfl⟩
      obtain ⟨Z, hZN, hZ⟩ := hz
      have cas : (X = Y ∧ d = 0) ∨ (X ≠ Y ∧ d = m + 1 ∧ 0 ≤ m) ∨ (X ≠ Y ∧ d = -1 ∧ m = -1) := by
        by_cases hxy : X = Y
        · exact .inl ⟨hxy, by rw [← hd.out]; exact (D_zero hX hY).2 hxy.symm⟩
        · have h := HQ.out.1
          rw [hnl.out] at h
          have := least_end hX hY hxy h
          rw [hd.out] at this
          rcases this with h | h
          · exact .inr (.inl ⟨hxy, h⟩)
          · exact .inr (.inr ⟨hxy, h⟩)
      obtain ⟨p, hp⟩ : ∃ p : Int, D (adj N r) N X Z = p := ⟨_, rfl⟩
      obtain ⟨q, hq⟩ : ∃ q : Int, D (adj N r) N Z Y = q := ⟨_, rfl⟩
      have hp1 : -1 ≤ p ∧ p < N := by rw [← hp]; exact ⟨D_lo hX hZN, D_small hX hZN⟩
      have hq1 : -1 ≤ q ∧ q < N := by rw [← hq]; exact ⟨D_lo hZN hY, D_small hZN hY⟩
      have tri : 0 ≤ p → 0 ≤ q → 0 ≤ d ∧ d ≤ p + q := by rw [← hp, ← hq, ← hd.out]; exact D_tri hX hZN hY
      have hsy : D (adj N r) N Y X = d := by rw [← hd.out]; exact (D_symm (adj_symm N r) hX hY).symm
      obtain ⟨e1, he1⟩ : ∃ e1 : Int, (clsOf (conn N r) N).1.getD X 0 = e1 := ⟨_, rfl⟩
      obtain ⟨e2, he2⟩ : ∃ e2 : Int, (clsOf (conn N r) N).1.getD Y 0 = e2 := ⟨_, rfl⟩
      have hcl : e1 = e2 ↔ 0 ≤ d := by rw [← he1, ← he2, ← hd.out]; exact cls_D hX hY
      have HE := Lib.hid (show _ ∧ _ ∧ _ ∧ _ ∧ _ ∧ _ from ⟨hp, hq, hsy, he1, he2, hZ⟩)
      have tri := Lib.hid tri
      clear hp hq hsy he1 he2 RDS
      rcases cas with ⟨rfl, hd0⟩ | ⟨hxy, rfl, hm0⟩ | ⟨hxy, rfl, rfl⟩
      · obtain rfl : e1 = e2 := hcl.2 (by omega)
        clear hcl
        have t9 : decide (d < N) = true := by simp; omega
        have t1 : (d == 0) = true := by simp; omega
        have t8 : decide (0 ≤ d) = true := by simp; omega
        have t7 : decide (d < 0) = false := by simp; omega
        have hd1 := Lib.hid hd0
        clear hd0
        have qc0 : ∀ QQ : Wd (fun Q => Q.cell? ⟨w_1.heap.size, 0, none⟩ = some (.int .i64 N) ∧ Q.cell? ⟨w_1.heap.size, 1, none⟩ = some (.string s) ∧ Q.cell? ⟨w_1.heap.size, 2, none⟩ = some (.string r)), QQ.w.cell? ⟨w_1.heap.size, 0, none⟩ = some (.int .i64 N) := fun QQ => QQ.ok.1
        have qc1 : ∀ QQ : Wd (fun Q => Q.cell? ⟨w_1.heap.size, 0, none⟩ = some (.int .i64 N) ∧ Q.cell? ⟨w_1.heap.size, 1, none⟩ = some (.string s) ∧ Q.cell? ⟨w_1.heap.size, 2, none⟩ = some (.string r)), QQ.w.cell? ⟨w_1.heap.size, 1, none⟩ = some (.string s) := fun QQ => QQ.ok.2.1
        have qc2 : ∀ QQ : Wd (fun Q => Q.cell? ⟨w_1.heap.size, 0, none⟩ = some (.int .i64 N) ∧ Q.cell? ⟨w_1.heap.size, 1, none⟩ = some (.string s) ∧ Q.cell? ⟨w_1.heap.size, 2, none⟩ = some (.string r)), QQ.w.cell? ⟨w_1.heap.size, 2, none⟩ = some (.string r) := fun QQ => QQ.ok.2.2
        have hne : Nonempty (Wd (fun Q => Q.cell? ⟨w_1.heap.size, 0, none⟩ = some (.int .i64 N) ∧ Q.cell? ⟨w_1.heap.size, 1, none⟩ = some (.string s) ∧ Q.cell? ⟨w_1.heap.size, 2, none⟩ = some (.string r))) := ⟨⟨wr, ⟨a0, a1, a2⟩⟩⟩
        have hN0 : (N : Int) ≠ 0 := by omega
        go_wp2_with fail
        first | rw [hZ] | skip
        refine chain (S := (fun Q => Q.cell? ⟨w_1.heap.size, 0, none⟩ = some (.int .i64 N) ∧ Q.cell? ⟨w_1.heap.size, 1, none⟩ = some (.string s) ∧ Q.cell? ⟨w_1.heap.size, 2, none⟩ = some (.string r))) [([true, true, true, false, true, true, true], 3), ([], 7)] [false, false, false, false, false, false, false, false, true, true] (by kernel_rfl) (by kernel_rfl) (by kernel_rfl) ⟨a0, a1, a2⟩ ?_
        simp only [wpSegs, pickB, List.dropLast_cons_cons, List.dropLast_singleton, List.getLast?_cons_cons, List.getLast?_singleton, List.toList_toArray, List.getElem?_toArray, List.getElem?_cons_succ, List.getElem?_cons_zero, Option.toList_some]
        repeat (go_big_quiet_step (fail))
        refine wpQuiet_nil ?_
        intro K hK
        go_wp2_with fail
        refine (CO.out.d X Z p hX hZN HE.out.1 _).mono ?_
        rintro e w8 ⟨rfl, hb⟩
        have hb9 := ofDrew hb
        have HN := Lib.hid (show _ ∧ _ from ⟨HQ.out.2.1.trans (hb9.mono HQ.out.2.1.size), HQ.out.2.2.1.below hb9 HQ.out.2.2.1.lt⟩)
        clear hb hb9
        go_wp2_with fail
        refine hK _ _ HN.out.2.c ?_
        clear hK K
        repeat (go_big_quiet_step (fail))
        refine wpQuiet_nil ?_
        intro K hK
        go_wp2_with fail
        refine (CO.out.d Z X q hZN hX HE.out.2.1 _).mono ?_
        rintro e w9 ⟨rfl, hb⟩
        have HM := Lib.hid (show _ ∧ _ from ⟨HN.out.1.trans (hb.mono HN.out.1.size), HN.out.2.below hb HN.out.2.lt⟩)
        clear hb
        go_wp2_with fail
        refine hK _ _ HM.out.2.c ?_
        clear hK K
        repeat (go_big_quiet_step (fail))
        refine wpQuiet_nil ?_
        clear qc0 qc1 qc2 hne a0 a1 a2
        obtain ⟨a0, a1, a2⟩ := HM.out.2.c
        go_wp2_with fail
        refine (CO.out.p _).mono ?_
        rintro e w10 ⟨v, rfl, ho, hb⟩
        obtain ⟨ap, cp, hv⟩ := ho.reads.len
        have hcn : N = (clsOf (conn N r) N).1.length := ((cls_len (conn N r) N).1).symm
        rw [← hcn] at hv
        subst hv
        obtain ⟨g, og, rfl, hc⟩ := spot ho.reads hcn (by omega)
        have k1 := hc X hX
        have k2 := hc X hX
        rw [HE.out.2.2.2.1] at k1
        rw [HE.out.2.2.2.2.1] at k2
        have hgw : g < w10.heap.size := World.block_lt_of_cell? w10 _ k1
        have HP := Lib.hid (show _ ∧ _ from ⟨HM.out.1.trans (hb.mono HM.out.1.size), HM.out.2.below hb HM.out.2.lt⟩)
        clear hc hcn ho hb a0 a1 a2
        obtain ⟨a0, a1, a2⟩ := HP.out.2.c
        go_upto_region 18 with (fail)
        go_cut [110] from 17 to 109 (fun t wx => t = .bool false ∧ wx = w10)
        case first =>
          by_cases hp0 : p < 0
          · have u1 : decide (0 ≤ p) = false := by simp; omega
            go_wp2
            go_meet
            exact ⟨rfl, rfl⟩
          · have u1 : decide (0 ≤ p) = true := by simp; omega
            by_cases hq0 : q < 0
            · have u2 : decide (0 ≤ q) = false := by simp; omega
              go_wp2
              go_meet
              exact ⟨rfl, rfl⟩
            · have u2 : decide (0 ≤ q) = true := by simp; omega
              have u3 : decide (p + q < d) = false := by have := tri.out (by omega) (by omega); have := hd1.out; simp; omega
              go_wp2
              go_meet
              exact ⟨rfl, rfl⟩
        case rest =>
          obtain ⟨rfl, rfl⟩ := hcut
          have qc0 : ∀ QQ : Wd (fun Q => Q.cell? ⟨w_1.heap.size, 0, none⟩ = some (.int .i64 N) ∧ Q.cell? ⟨w_1.heap.size, 1, none⟩ = some (.string s) ∧ Q.cell? ⟨w_1.heap.size, 2, none⟩ = some (.string r) ∧ Q.cell? ⟨g, og + X, none⟩ = some (.int .i64 e1)), QQ.w.cell? ⟨w_1.heap.size, 0, none⟩ = some (.int .i64 N) := fun QQ => QQ.ok.1
          have qc1 : ∀ QQ : Wd (fun Q => Q.cell? ⟨w_1.heap.size, 0, none⟩ = some (.int .i64 N) ∧ Q.cell? ⟨w_1.heap.size, 1, none⟩ = some (.string s) ∧ Q.cell? ⟨w_1.heap.size, 2, none⟩ = some (.string r) ∧ Q.cell? ⟨g, og + X, none⟩ = some (.int .i64 e1)), QQ.w.cell? ⟨w_1.heap.size, 1, none⟩ = some (.string s) := fun QQ => QQ.ok.2.1
          have qc2 : ∀ QQ : Wd (fun Q => Q.cell? ⟨w_1.heap.size, 0, none⟩ = some (.int .i64 N) ∧ Q.cell? ⟨w_1.heap.size, 1, none⟩ = some (.string s) ∧ Q.cell? ⟨w_1.heap.size, 2, none⟩ = some (.string r) ∧ Q.cell? ⟨g, og + X, none⟩ = some (.int .i64 e1)), QQ.w.cell? ⟨w_1.heap.size, 2, none⟩ = some (.string r) := fun QQ => QQ.ok.2.2.1
          have qc3 : ∀ QQ : Wd (fun Q => Q.cell? ⟨w_1.heap.size, 0, none⟩ = some (.int .i64 N) ∧ Q.cell? ⟨w_1.heap.size, 1, none⟩ = some (.string s) ∧ Q.cell? ⟨w_1.heap.size, 2, none⟩ = some (.string r) ∧ Q.cell? ⟨g, og + X, none⟩ = some (.int .i64 e1)), QQ.w.cell? ⟨g, og + X, none⟩ = some (.int .i64 e1) := fun QQ => QQ.ok.2.2.2
          have hne : Nonempty (Wd (fun Q => Q.cell? ⟨w_1.heap.size, 0, none⟩ = some (.int .i64 N) ∧ Q.cell? ⟨w_1.heap.size, 1, none⟩ = some (.string s) ∧ Q.cell? ⟨w_1.heap.size, 2, none⟩ = some (.string r) ∧ Q.cell? ⟨g, og + X, none⟩ = some (.int .i64 e1))) := ⟨⟨wc, ⟨a0, a1, a2, k1⟩⟩⟩
          go_wp2_with fail
          refine chain (S := (fun Q => Q.cell? ⟨w_1.heap.size, 0, none⟩ = some (.int .i64 N) ∧ Q.cell? ⟨w_1.heap.size, 1, none⟩ = some (.string s) ∧ Q.cell? ⟨w_1.heap.size, 2, none⟩ = some (.string r) ∧ Q.cell? ⟨g, og + X, none⟩ = some (.int .i64 e1))) [([true, true, true, true, true, true, true, true, true, true, true, true, true, true, true, true, true, true, true, true, true, true, true, true, true, true, true, true, true, true, true, true, true, false, true], 33)] [false, false, false, false, false, false, false, false, false, false, false, false, false, false, false, false, false, false, false, false, false, false, false, false, false, false, false, false, false, false, false, false, false, false, false, true, true, true, true, true, true, true, true, true, true, true, true, true, true, true, true, true, true, true, true, true, true, true] (by kernel_rfl) (by kernel_rfl) (by kernel_rfl) ⟨a0, a1, a2, k1⟩ ?_
          simp only [wpSegs, pickB, List.dropLast_cons_cons, List.dropLast_singleton, List.getLast?_cons_cons, List.getLast?_singleton, List.toList_toArray, List.getElem?_toArray, List.getElem?_cons_succ, List.getElem?_cons_zero, Option.toList_some]
          repeat (go_big_quiet_step (fail))
          refine wpQuiet_nil ?_
          intro K hK
          go_wp2_with fail
          refine (CO.out.d X X d hY hX HE.out.2.2.1 _).mono ?_
          rintro e w11 ⟨rfl, hb⟩
          have hb9 := ofDrew hb
          have HR := Lib.hid (show _ ∧ _ from ⟨HP.out.1.trans (hb9.mono HP.out.1.size), HP.out.2.below hb9 HP.out.2.lt⟩)
          have k1x := (hb9.cell hgw).trans k1
          skip
          clear hb hb9
          go_wp2_with fail
          refine hK _ _ ⟨HR.out.2.c.1, HR.out.2.c.2.1, HR.out.2.c.2.2, k1x⟩ ?_
          clear hK K
          repeat (go_big_quiet_step (fail))
          refine wpQuiet_nil ?_
          go_wp2
          go_ret
          exact ⟨rfl, HR.out.1⟩
      · obtain ⟨M, rfl⟩ : ∃ M : Nat, m = M := ⟨m.toNat, by omega⟩
        obtain rfl : e1 = e2 := hcl.2 (by omega)
        clear hcl
        have t1 : ((X : Int) == (Y : Int)) = false := by simp; omega
        have t2 : ((M : Int) + 1 == 0) = false := by simp; omega
        have t3 : decide ((M : Int) + 1 < N) = true := by simp; omega
        have t4 : decide (0 ≤ (M : Int) + 1) = true := by simp; omega
        have t5 : decide ((M : Int) + 1 < 0) = false := by simp; omega
        have qc0 : ∀ QQ : Wd (fun Q => Q.cell? ⟨w_1.heap.size, 0, none⟩ = some (.int .i64 N) ∧ Q.cell? ⟨w_1.heap.size, 1, none⟩ = some (.string s) ∧ Q.cell? ⟨w_1.heap.size, 2, none⟩ = some (.string r)), QQ.w.cell? ⟨w_1.heap.size, 0, none⟩ = some (.int .i64 N) := fun QQ => QQ.ok.1
        have qc1 : ∀ QQ : Wd (fun Q => Q.cell? ⟨w_1.heap.size, 0, none⟩ = some (.int .i64 N) ∧ Q.cell? ⟨w_1.heap.size, 1, none⟩ = some (.string s) ∧ Q.cell? ⟨w_1.heap.size, 2, none⟩ = some (.string r)), QQ.w.cell? ⟨w_1.heap.size, 1, none⟩ = some (.string s) := fun QQ => QQ.ok.2.1
        have qc2 : ∀ QQ : Wd (fun Q => Q.cell? ⟨w_1.heap.size, 0, none⟩ = some (.int .i64 N) ∧ Q.cell? ⟨w_1.heap.size, 1, none⟩ = some (.string s) ∧ Q.cell? ⟨w_1.heap.size, 2, none⟩ = some (.string r)), QQ.w.cell? ⟨w_1.heap.size, 2, none⟩ = some (.string r) := fun QQ => QQ.ok.2.2
        have hne : Nonempty (Wd (fun Q => Q.cell? ⟨w_1.heap.size, 0, none⟩ = some (.int .i64 N) ∧ Q.cell? ⟨w_1.heap.size, 1, none⟩ = some (.string s) ∧ Q.cell? ⟨w_1.heap.size, 2, none⟩ = some (.string r))) := ⟨⟨wr, ⟨a0, a1, a2⟩⟩⟩
        have hN0 : (N : Int) ≠ 0 := by omega
        go_wp2_with fail
        first | rw [hZ] | skip
        refine chain (S := (fun Q => Q.cell? ⟨w_1.heap.size, 0, none⟩ = some (.int .i64 N) ∧ Q.cell? ⟨w_1.heap.size, 1, none⟩ = some (.string s) ∧ Q.cell? ⟨w_1.heap.size, 2, none⟩ = some (.string r))) [([true, true, true, false, true, true, true], 3), ([], 7)] [false, false, false, false, false, false, false, false, true, true] (by kernel_rfl) (by kernel_rfl) (by kernel_rfl) ⟨a0, a1, a2⟩ ?_
        simp only [wpSegs, pickB, List.dropLast_cons_cons, List.dropLast_singleton, List.getLast?_cons_cons, List.getLast?_singleton, List.toList_toArray, List.getElem?_toArray, List.getElem?_cons_succ, List.getElem?_cons_zero, Option.toList_some]
        repeat (go_big_quiet_step (fail))
        refine wpQuiet_nil ?_
        intro K hK
        go_wp2_with fail
        refine (CO.out.d X Z p hX hZN HE.out.1 _).mono ?_
        rintro e w8 ⟨rfl, hb⟩
        have hb9 := ofDrew hb
        have HN := Lib.hid (show _ ∧ _ from ⟨HQ.out.2.1.trans (hb9.mono HQ.out.2.1.size), HQ.out.2.2.1.below hb9 HQ.out.2.2.1.lt⟩)
        clear hb hb9
        go_wp2_with fail
        refine hK _ _ HN.out.2.c ?_
        clear hK K
        repeat (go_big_quiet_step (fail))
        refine wpQuiet_nil ?_
        intro K hK
        go_wp2_with fail
        refine (CO.out.d Z Y q hZN hY HE.out.2.1 _).mono ?_
        rintro e w9 ⟨rfl, hb⟩
        have HM := Lib.hid (show _ ∧ _ from ⟨HN.out.1.trans (hb.mono HN.out.1.size), HN.out.2.below hb HN.out.2.lt⟩)
        clear hb
        go_wp2_with fail
        refine hK _ _ HM.out.2.c ?_
        clear hK K
        repeat (go_big_quiet_step (fail))
        refine wpQuiet_nil ?_
        clear qc0 qc1 qc2 hne a0 a1 a2
        obtain ⟨a0, a1, a2⟩ := HM.out.2.c
        go_wp2_with fail
        refine (CO.out.p _).mono ?_
        rintro e w10 ⟨v, rfl, ho, hb⟩
        obtain ⟨ap, cp, hv⟩ := ho.reads.len
        have hcn : N = (clsOf (conn N r) N).1.length := ((cls_len (conn N r) N).1).symm
        rw [← hcn] at hv
        subst hv
        obtain ⟨g, og, rfl, hc⟩ := spot ho.reads hcn (by omega)
        have k1 := hc X hX
        have k2 := hc Y hY
        rw [HE.out.2.2.2.1] at k1
        rw [HE.out.2.2.2.2.1] at k2
        have hgw : g < w10.heap.size := World.block_lt_of_cell? w10 _ k1
        have HP := Lib.hid (show _ ∧ _ from ⟨HM.out.1.trans (hb.mono HM.out.1.size), HM.out.2.below hb HM.out.2.lt⟩)
        clear hc hcn ho hb a0 a1 a2
        obtain ⟨a0, a1, a2⟩ := HP.out.2.c
        go_upto_region 18 with (fail)
        go_cut [110] from 17 to 109 (fun t wx => t = .bool false ∧ wx = w10)
        case first =>
          by_cases hp0 : p < 0
          · have u1 : decide (0 ≤ p) = false := by simp; omega
            go_wp2
            go_meet
            exact ⟨rfl, rfl⟩
          · have u1 : decide (0 ≤ p) = true := by simp; omega
            by_cases hq0 : q < 0
            · have u2 : decide (0 ≤ q) = false := by simp; omega
              go_wp2
              go_meet
              exact ⟨rfl, rfl⟩
            · have u2 : decide (0 ≤ q) = true := by simp; omega
              have u3 : decide (p + q < ((M : Int) + 1)) = false := by have := tri.out (by omega) (by omega); simp; omega
              go_wp2
              go_meet
              exact ⟨rfl, rfl⟩
        case rest =>
          obtain ⟨rfl, rfl⟩ := hcut
          have qc0 : ∀ QQ : Wd (fun Q => Q.cell? ⟨w_1.heap.size, 0, none⟩ = some (.int .i64 N) ∧ Q.cell? ⟨w_1.heap.size, 1, none⟩ = some (.string s) ∧ Q.cell? ⟨w_1.heap.size, 2, none⟩ = some (.string r) ∧ Q.cell? ⟨g, og + X, none⟩ = some (.int .i64 e1) ∧ Q.cell? ⟨g, og + Y, none⟩ = some (.int .i64 e1)), QQ.w.cell? ⟨w_1.heap.size, 0, none⟩ = some (.int .i64 N) := fun QQ => QQ.ok.1
          have qc1 : ∀ QQ : Wd (fun Q => Q.cell? ⟨w_1.heap.size, 0, none⟩ = some (.int .i64 N) ∧ Q.cell? ⟨w_1.heap.size, 1, none⟩ = some (.string s) ∧ Q.cell? ⟨w_1.heap.size, 2, none⟩ = some (.string r) ∧ Q.cell? ⟨g, og + X, none⟩ = some (.int .i64 e1) ∧ Q.cell? ⟨g, og + Y, none⟩ = some (.int .i64 e1)), QQ.w.cell? ⟨w_1.heap.size, 1, none⟩ = some (.string s) := fun QQ => QQ.ok.2.1
          have qc2 : ∀ QQ : Wd (fun Q => Q.cell? ⟨w_1.heap.size, 0, none⟩ = some (.int .i64 N) ∧ Q.cell? ⟨w_1.heap.size, 1, none⟩ = some (.string s) ∧ Q.cell? ⟨w_1.heap.size, 2, none⟩ = some (.string r) ∧ Q.cell? ⟨g, og + X, none⟩ = some (.int .i64 e1) ∧ Q.cell? ⟨g, og + Y, none⟩ = some (.int .i64 e1)), QQ.w.cell? ⟨w_1.heap.size, 2, none⟩ = some (.string r) := fun QQ => QQ.ok.2.2.1
          have qc3 : ∀ QQ : Wd (fun Q => Q.cell? ⟨w_1.heap.size, 0, none⟩ = some (.int .i64 N) ∧ Q.cell? ⟨w_1.heap.size, 1, none⟩ = some (.string s) ∧ Q.cell? ⟨w_1.heap.size, 2, none⟩ = some (.string r) ∧ Q.cell? ⟨g, og + X, none⟩ = some (.int .i64 e1) ∧ Q.cell? ⟨g, og + Y, none⟩ = some (.int .i64 e1)), QQ.w.cell? ⟨g, og + X, none⟩ = some (.int .i64 e1) := fun QQ => QQ.ok.2.2.2.1
          have qc4 : ∀ QQ : Wd (fun Q => Q.cell? ⟨w_1.heap.size, 0, none⟩ = some (.int .i64 N) ∧ Q.cell? ⟨w_1.heap.size, 1, none⟩ = some (.string s) ∧ Q.cell? ⟨w_1.heap.size, 2, none⟩ = some (.string r) ∧ Q.cell? ⟨g, og + X, none⟩ = some (.int .i64 e1) ∧ Q.cell? ⟨g, og + Y, none⟩ = some (.int .i64 e1)), QQ.w.cell? ⟨g, og + Y, none⟩ = some (.int .i64 e1) := fun QQ => QQ.ok.2.2.2.2
          have hne : Nonempty (Wd (fun Q => Q.cell? ⟨w_1.heap.size, 0, none⟩ = some (.int .i64 N) ∧ Q.cell? ⟨w_1.heap.size, 1, none⟩ = some (.string s) ∧ Q.cell? ⟨w_1.heap.size, 2, none⟩ = some (.string r) ∧ Q.cell? ⟨g, og + X, none⟩ = some (.int .i64 e1) ∧ Q.cell? ⟨g, og + Y, none⟩ = some (.int .i64 e1))) := ⟨⟨wc, ⟨a0, a1, a2, k1, k2⟩⟩⟩
          go_wp2_with fail
          refine chain (S := (fun Q => Q.cell? ⟨w_1.heap.size, 0, none⟩ = some (.int .i64 N) ∧ Q.cell? ⟨w_1.heap.size, 1, none⟩ = some (.string s) ∧ Q.cell? ⟨w_1.heap.size, 2, none⟩ = some (.string r) ∧ Q.cell? ⟨g, og + X, none⟩ = some (.int .i64 e1) ∧ Q.cell? ⟨g, og + Y, none⟩ = some (.int .i64 e1))) [([true, true, true, true, true, true, true, true, true, true, true, true, true, true, true, true, true, true, true, true, true, true, true, true, true, true, true, true, true, true, true, true, true, false, true], 33)] [false, false, false, false, false, false, false, false, false, false, false, false, false, false, false, false, false, false, false, false, false, false, false, false, false, false, false, false, false, false, false, false, false, false, false, true, true, true, true, true, true, true, true, true, true, true, true, true, true, true, true, true, true, true, true, true, true, true] (by kernel_rfl) (by kernel_rfl) (by kernel_rfl) ⟨a0, a1, a2, k1, k2⟩ ?_
          simp only [wpSegs, pickB, List.dropLast_cons_cons, List.dropLast_singleton, List.getLast?_cons_cons, List.getLast?_singleton, List.toList_toArray, List.getElem?_toArray, List.getElem?_cons_succ, List.getElem?_cons_zero, Option.toList_some]
          repeat (go_big_quiet_step (fail))
          refine wpQuiet_nil ?_
          intro K hK
          go_wp2_with fail
          refine (CO.out.d Y X ((M : Int) + 1) hY hX HE.out.2.2.1 _).mono ?_
          rintro e w11 ⟨rfl, hb⟩
          have hb9 := ofDrew hb
          have HR := Lib.hid (show _ ∧ _ from ⟨HP.out.1.trans (hb9.mono HP.out.1.size), HP.out.2.below hb9 HP.out.2.lt⟩)
          have k1x := (hb9.cell hgw).trans k1
          have k2x := (hb9.cell hgw).trans k2
          clear hb hb9
          go_wp2_with fail
          refine hK _ _ ⟨HR.out.2.c.1, HR.out.2.c.2.1, HR.out.2.c.2.2, k1x, k2x⟩ ?_
          clear hK K
          repeat (go_big_quiet_step (fail))
          refine wpQuiet_nil ?_
          go_wp2
          go_ret
          exact ⟨rfl, HR.out.1⟩
      · have hce : e1 ≠ e2 := fun h => by have := hcl.1 h; omega
        clear hcl
        have t1 : ((X : Int) == (Y : Int)) = false := by simp; omega
        have t2 : (e1 == e2) = false := by simpa using hce
        have t3 : decide ((-1 : Int) < N) = true := by simp; omega
        have qc0 : ∀ QQ : Wd (fun Q => Q.cell? ⟨w_1.heap.size, 0, none⟩ = some (.int .i64 N) ∧ Q.cell? ⟨w_1.heap.size, 1, none⟩ = some (.string s) ∧ Q.cell? ⟨w_1.heap.size, 2, none⟩ = some (.string r)), QQ.w.cell? ⟨w_1.heap.size, 0, none⟩ = some (.int .i64 N) := fun QQ => QQ.ok.1
        have qc1 : ∀ QQ : Wd (fun Q => Q.cell? ⟨w_1.heap.size, 0, none⟩ = some (.int .i64 N) ∧ Q.cell? ⟨w_1.heap.size, 1, none⟩ = some (.string s) ∧ Q.cell? ⟨w_1.heap.size, 2, none⟩ = some (.string r)), QQ.w.cell? ⟨w_1.heap.size, 1, none⟩ = some (.string s) := fun QQ => QQ.ok.2.1
        have qc2 : ∀ QQ : Wd (fun Q => Q.cell? ⟨w_1.heap.size, 0, none⟩ = some (.int .i64 N) ∧ Q.cell? ⟨w_1.heap.size, 1, none⟩ = some (.string s) ∧ Q.cell? ⟨w_1.heap.size, 2, none⟩ = some (.string r)), QQ.w.cell? ⟨w_1.heap.size, 2, none⟩ = some (.string r) := fun QQ => QQ.ok.2.2
        have hne : Nonempty (Wd (fun Q => Q.cell? ⟨w_1.heap.size, 0, none⟩ = some (.int .i64 N) ∧ Q.cell? ⟨w_1.heap.size, 1, none⟩ = some (.string s) ∧ Q.cell? ⟨w_1.heap.size, 2, none⟩ = some (.string r))) := ⟨⟨wr, ⟨a0, a1, a2⟩⟩⟩
        have hN0 : (N : Int) ≠ 0 := by omega
        go_wp2_with fail
        first | rw [hZ] | skip
        refine chain (S := (fun Q => Q.cell? ⟨w_1.heap.size, 0, none⟩ = some (.int .i64 N) ∧ Q.cell? ⟨w_1.heap.size, 1, none⟩ = some (.string s) ∧ Q.cell? ⟨w_1.heap.size, 2, none⟩ = some (.string r))) [([true, true, true, false, true, true, true], 3), ([], 7)] [false, false, false, false, false, false, false, false, true, true] (by kernel_rfl) (by kernel_rfl) (by kernel_rfl) ⟨a0, a1, a2⟩ ?_
        simp only [wpSegs, pickB, List.dropLast_cons_cons, List.dropLast_singleton, List.getLast?_cons_cons, List.getLast?_singleton, List.toList_toArray, List.getElem?_toArray, List.getElem?_cons_succ, List.getElem?_cons_zero, Option.toList_some]
        repeat (go_big_quiet_step (fail))
        refine wpQuiet_nil ?_
        intro K hK
        go_wp2_with fail
        refine (CO.out.d X Z p hX hZN HE.out.1 _).mono ?_
        rintro e w8 ⟨rfl, hb⟩
        have hb9 := ofDrew hb
        have HN := Lib.hid (show _ ∧ _ from ⟨HQ.out.2.1.trans (hb9.mono HQ.out.2.1.size), HQ.out.2.2.1.below hb9 HQ.out.2.2.1.lt⟩)
        clear hb hb9
        go_wp2_with fail
        refine hK _ _ HN.out.2.c ?_
        clear hK K
        repeat (go_big_quiet_step (fail))
        refine wpQuiet_nil ?_
        intro K hK
        go_wp2_with fail
        refine (CO.out.d Z Y q hZN hY HE.out.2.1 _).mono ?_
        rintro e w9 ⟨rfl, hb⟩
        have HM := Lib.hid (show _ ∧ _ from ⟨HN.out.1.trans (hb.mono HN.out.1.size), HN.out.2.below hb HN.out.2.lt⟩)
        clear hb
        go_wp2_with fail
        refine hK _ _ HM.out.2.c ?_
        clear hK K
        repeat (go_big_quiet_step (fail))
        refine wpQuiet_nil ?_
        clear qc0 qc1 qc2 hne a0 a1 a2
        obtain ⟨a0, a1, a2⟩ := HM.out.2.c
        go_wp2_with fail
        refine (CO.out.p _).mono ?_
        rintro e w10 ⟨v, rfl, ho, hb⟩
        obtain ⟨ap, cp, hv⟩ := ho.reads.len
        have hcn : N = (clsOf (conn N r) N).1.length := ((cls_len (conn N r) N).1).symm
        rw [← hcn] at hv
        subst hv
        obtain ⟨g, og, rfl, hc⟩ := spot ho.reads hcn (by omega)
        have k1 := hc X hX
        have k2 := hc Y hY
        rw [HE.out.2.2.2.1] at k1
        rw [HE.out.2.2.2.2.1] at k2
        have hgw : g < w10.heap.size := World.block_lt_of_cell? w10 _ k1
        have HP := Lib.hid (show _ ∧ _ from ⟨HM.out.1.trans (hb.mono HM.out.1.size), HM.out.2.below hb HM.out.2.lt⟩)
        clear hc hcn ho hb a0 a1 a2
        obtain ⟨a0, a1, a2⟩ := HP.out.2.c
        go_upto_region 18 with (fail)
        go_cut [110] from 17 to 109 (fun t wx => t = .bool false ∧ wx = w10)
        case first =>
          by_cases hp0 : p < 0
          · have u1 : decide (0 ≤ p) = false := by simp; omega
            go_wp2
            go_meet
            exact ⟨rfl, rfl⟩
          · have u1 : decide (0 ≤ p) = true := by simp; omega
            by_cases hq0 : q < 0
            · have u2 : decide (0 ≤ q) = false := by simp; omega
              go_wp2
              go_meet
              exact ⟨rfl, rfl⟩
            · exfalso
              have := tri.out (by omega) (by omega)
              omega
        case rest =>
          obtain ⟨rfl, rfl⟩ := hcut
          have qc0 : ∀ QQ : Wd (fun Q => Q.cell? ⟨w_1.heap.size, 0, none⟩ = some (.int .i64 N) ∧ Q.cell? ⟨w_1.heap.size, 1, none⟩ = some (.string s) ∧ Q.cell? ⟨w_1.heap.size, 2, none⟩ = some (.string r) ∧ Q.cell? ⟨g, og + X, none⟩ = some (.int .i64 e1) ∧ Q.cell? ⟨g, og + Y, none⟩ = some (.int .i64 e2)), QQ.w.cell? ⟨w_1.heap.size, 0, none⟩ = some (.int .i64 N) := fun QQ => QQ.ok.1
          have qc1 : ∀ QQ : Wd (fun Q => Q.cell? ⟨w_1.heap.size, 0, none⟩ = some (.int .i64 N) ∧ Q.cell? ⟨w_1.heap.size, 1, none⟩ = some (.string s) ∧ Q.cell? ⟨w_1.heap.size, 2, none⟩ = some (.string r) ∧ Q.cell? ⟨g, og + X, none⟩ = some (.int .i64 e1) ∧ Q.cell? ⟨g, og + Y, none⟩ = some (.int .i64 e2)), QQ.w.cell? ⟨w_1.heap.size, 1, none⟩ = some (.string s) := fun QQ => QQ.ok.2.1
          have qc2 : ∀ QQ : Wd (fun Q => Q.cell? ⟨w_1.heap.size, 0, none⟩ = some (.int .i64 N) ∧ Q.cell? ⟨w_1.heap.size, 1, none⟩ = some (.string s) ∧ Q.cell? ⟨w_1.heap.size, 2, none⟩ = some (.string r) ∧ Q.cell? ⟨g, og + X, none⟩ = some (.int .i64 e1) ∧ Q.cell? ⟨g, og + Y, none⟩ = some (.int .i64 e2)), QQ.w.cell? ⟨w_1.heap.size, 2, none⟩ = some (.string r) := fun QQ => QQ.ok.2.2.1
          have qc3 : ∀ QQ : Wd (fun Q => Q.cell? ⟨w_1.heap.size, 0, none⟩ = some (.int .i64 N) ∧ Q.cell? ⟨w_1.heap.size, 1, none⟩ = some (.string s) ∧ Q.cell? ⟨w_1.heap.size, 2, none⟩ = some (.string r) ∧ Q.cell? ⟨g, og + X, none⟩ = some (.int .i64 e1) ∧ Q.cell? ⟨g, og + Y, none⟩ = some (.int .i64 e2)), QQ.w.cell? ⟨g, og + X, none⟩ = some (.int .i64 e1) := fun QQ => QQ.ok.2.2.2.1
          have qc4 : ∀ QQ : Wd (fun Q => Q.cell? ⟨w_1.heap.size, 0, none⟩ = some (.int .i64 N) ∧ Q.cell? ⟨w_1.heap.size, 1, none⟩ = some (.string s) ∧ Q.cell? ⟨w_1.heap.size, 2, none⟩ = some (.string r) ∧ Q.cell? ⟨g, og + X, none⟩ = some (.int .i64 e1) ∧ Q.cell? ⟨g, og + Y, none⟩ = some (.int .i64 e2)), QQ.w.cell? ⟨g, og + Y, none⟩ = some (.int .i64 e2) := fun QQ => QQ.ok.2.2.2.2
          have hne : Nonempty (Wd (fun Q => Q.cell? ⟨w_1.heap.size, 0, none⟩ = some (.int .i64 N) ∧ Q.cell? ⟨w_1.heap.size, 1, none⟩ = some (.string s) ∧ Q.cell? ⟨w_1.heap.size, 2, none⟩ = some (.string r) ∧ Q.cell? ⟨g, og + X, none⟩ = some (.int .i64 e1) ∧ Q.cell? ⟨g, og + Y, none⟩ = some (.int .i64 e2))) := ⟨⟨wc, ⟨a0, a1, a2, k1, k2⟩⟩⟩
          go_wp2_with fail
          refine chain (S := (fun Q => Q.cell? ⟨w_1.heap.size, 0, none⟩ = some (.int .i64 N) ∧ Q.cell? ⟨w_1.heap.size, 1, none⟩ = some (.string s) ∧ Q.cell? ⟨w_1.heap.size, 2, none⟩ = some (.string r) ∧ Q.cell? ⟨g, og + X, none⟩ = some (.int .i64 e1) ∧ Q.cell? ⟨g, og + Y, none⟩ = some (.int .i64 e2))) [([true, true, true, true, true, true, true, true, true, true, true, true, true, true, true, true, true, true, true, true, true, true, true, true, true, true, true, true, true, true, true, true, true, false, true], 33)] [false, false, false, false, false, false, false, false, false, false, false, false, false, false, false, false, false, false, false, false, false, false, false, false, false, false, false, false, false, false, false, false, false, false, false, true, true, true, true, true, true, true, true, true, true, true, true, true, true, true, true, true, true, true, true, true, true, true] (by kernel_rfl) (by kernel_rfl) (by kernel_rfl) ⟨a0, a1, a2, k1, k2⟩ ?_
          simp only [wpSegs, pickB, List.dropLast_cons_cons, List.dropLast_singleton, List.getLast?_cons_cons, List.getLast?_singleton, List.toList_toArray, List.getElem?_toArray, List.getElem?_cons_succ, List.getElem?_cons_zero, Option.toList_some]
          repeat (go_big_quiet_step (fail))
          refine wpQuiet_nil ?_
          intro K hK
          go_wp2_with fail
          refine (CO.out.d Y X (-1) hY hX HE.out.2.2.1 _).mono ?_
          rintro e w11 ⟨rfl, hb⟩
          have hb9 := ofDrew hb
          have HR := Lib.hid (show _ ∧ _ from ⟨HP.out.1.trans (hb9.mono HP.out.1.size), HP.out.2.below hb9 HP.out.2.lt⟩)
          have k1x := (hb9.cell hgw).trans k1
          have k2x := (hb9.cell hgw).trans k2
          clear hb hb9
          go_wp2_with fail
          refine hK _ _ ⟨HR.out.2.c.1, HR.out.2.c.2.1, HR.out.2.c.2.2, k1x, k2x⟩ ?_
          clear hK K
          repeat (go_big_quiet_step (fail))
          refine wpQuiet_nil ?_
          go_wp2
          go_ret
          exact ⟨rfl, HR.out.1⟩
end Go.Proofs.YtlnmebjbinmeiaaDoor.fnDistW
