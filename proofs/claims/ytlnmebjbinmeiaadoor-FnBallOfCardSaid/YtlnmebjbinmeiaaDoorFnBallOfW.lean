/- FnBallOf: the walk. -/
import Derived.Test.YtlnmebjbinmeiaaDoorDrawF
import Derived.Test.YtlnmebjbinmeiaaDoorBlaw
import Derived.Test.YtlnmebjbinmeiaaDoorBallO
import Derived.Test.YtlnmebjbinmeiaaDoorDistO
import Derived.Test.YtlnmebjbinmeiaaDoorGs
import Derived.Test.YtlnmebjbinmeiaaDoorRow
namespace Go.Proofs.YtlnmebjbinmeiaaDoor.fnBallW
set_option linter.unusedVariables false
set_option linter.unusedSimpArgs false
open Go.ChangeShapes Go.WideShapes Go.ChangeAt Go.RowKit
open Go.Proofs.YtlnmebjbinmeiaaDoor.flow Go.Proofs.YtlnmebjbinmeiaaDoor.lib Go.Proofs.YtlnmebjbinmeiaaDoor.st Go.Proofs.YtlnmebjbinmeiaaDoor.draw Go.Proofs.YtlnmebjbinmeiaaDoor.base Go.Proofs.YtlnmebjbinmeiaaDoor.near Go.Proofs.YtlnmebjbinmeiaaDoor.dist Go.Proofs.YtlnmebjbinmeiaaDoor.pieces Go.Proofs.YtlnmebjbinmeiaaDoor.cls Go.Proofs.YtlnmebjbinmeiaaDoor.chain Go.Proofs.YtlnmebjbinmeiaaDoor.gs Go.Proofs.YtlnmebjbinmeiaaDoor.ball
/-- bytes that came in may be drawn from -/
theorem byt_of_row {w : World} {a : Option Addr} {n c : Nat} {zs : List Int} (h : row.IsRow .u8 w a n c zs) : Byt w w.heap.size a n ∧ n ≤ c ∧ c ≤ 9223372036854775807 := by
  rcases h with ⟨rfl, rfl, rfl, rfl⟩ | ⟨x, rfl, hl, hm, hz, hcell, hwf⟩
  · exact ⟨.inl rfl, Nat.le_refl _, by omega⟩
  · refine ⟨?_, hl, hm⟩
    by_cases h0 : n = 0
    · exact .inl h0
    · obtain ⟨b, off, spot⟩ := x
      have hc := hcell 0 (by omega)
      have hspot : spot = none := by simpa [Addr.add] using World.cell?_spot hc
      subst hspot
      have hlt := World.block_lt_of_cell? w _ hc
      refine .inr ⟨b, off, rfl, by simpa [Addr.add] using hlt, fun i hi => ?_⟩
      have hci := hcell i (by omega)
      have hw := hwf (zs.getD i 0) (by rw [List.getD_eq_getElem?_getD, List.getElem?_eq_getElem (by omega)]; exact List.getElem_mem _)
      have hb : 0 ≤ zs.getD i 0 ∧ zs.getD i 0 ≤ 255 := by
        generalize zs.getD i 0 = z at hw ⊢
        simp only [Lit.wf, IntKind.min, IntKind.max, IntKind.signed, IntKind.bits, Bool.and_eq_true, decide_eq_true_eq] at hw
        simp at hw
        omega
      refine ⟨(zs.getD i 0).toNat, by omega, ?_⟩
      rw [show (⟨b, off, none⟩ : Addr).add i = ⟨b, off + i, none⟩ from by simp only [Addr.add]; split <;> simp [*]] at hci
      rw [hci, show (((zs.getD i 0).toNat : Nat) : Int) = zs.getD i 0 from by omega]
theorem ofDrew {w w' : World} (h : Below w.drew.heap.size w.drew w') : Below w.heap.size w w' := by
  cases h; constructor <;> assumption
/-- the spot of a list's members -/
theorem spot {w : World} {ao : Option Addr} {nl cl : Nat} {l : List Int} (h : Reads w (.slice ao nl cl) l) (hl : nl = l.length) (h1 : 1 ≤ nl) :
    ∃ b off, ao = some ⟨b, off, none⟩ ∧ ∀ i, i < nl → w.cell? ⟨b, off + i, none⟩ = some (.int .i64 (l.getD i 0)) := by
  obtain ⟨ao', c', hv', hc', _⟩ := h
  simp only [Value.slice.injEq] at hv'
  rcases hc' with h | ⟨b, off, he, hc⟩
  · rw [h] at hl; simp at hl; omega
  · exact ⟨b, off, hv'.1.trans he, fun i hi => hc i (by omega)⟩

/-- the contracts at a valid structure -/
structure Con (N : Nat) (s r : ByteArray) : Prop where
  d : ∀ (A B : Nat) (d : Int), A < N → B < N → D (adj N r) N A B = d → ∀ W : World, Calls Tryd.prog 45 #[.agg #[.int .i64 N, .string s, .string r], .int .i64 A, .int .i64 B] W fun e w' => e = .returned (.int .i64 d) ∧ Below W.heap.size W w'
  n : ∀ (A : Nat), A < N → ∀ W : World, Calls Tryd.prog 47 #[.agg #[.int .i64 N, .string s, .string r], .int .i64 A] W fun e w' => ∃ v, e = .returned v ∧ OwnI 3 w' W.heap.size v (nearTo N r A N) ∧ Below W.heap.size W w'
  b : ∀ (A : Nat) (rad : Int), A < N → 0 ≤ rad → rad ≤ 100 → ∀ W : World, Calls Tryd.prog 26 #[.agg #[.int .i64 N, .string s, .string r], .int .i64 A, .int .i64 rad] W fun e w' => ∃ v, e = .returned v ∧ OwnI 3 w' W.heap.size v (ballTo N r A rad N) ∧ Below W.heap.size W w'
theorem con {N : Nat} {s r : ByteArray} (hv : validB N s r = true) (hs : s.size ≤ 100) (hr : r.size ≤ 100) : Con N s r := by
  have el : ∀ A : Nat, A < N → elemB N s r A = true := fun A hA => elemB_iff.2 ⟨hv, by omega, by omega⟩
  refine ⟨fun A B d hA hB hd W => ?_, fun A hA W => ?_, fun A rad hA h0 h1 W => ?_⟩
  · have h := implDistanceOf_any N s r A B W (by omega) (by omega)
    have e : distR N s r A B = D (adj N r) N A B := by
      unfold distR
      rw [if_pos (el A hA), if_pos (el B hB)]
      rfl
    rw [e, hd] at h; exact h
  · have h := implNearOf_any N s r A W (by omega) (by omega)
    have e : nearR N s r A = nearTo N r A N := by
      unfold nearR
      rw [if_pos (el A hA)]
      rfl
    rw [e] at h; exact h
  · have h := implBall_any N s r A rad W (by omega) (by omega)
    have e : ballR N s r A rad = ballTo N r A rad N := by
      unfold ballR
      rw [if_pos (el A hA), if_pos (by simp [basic.inB]; omega)]
      rfl
    rw [e] at h; exact h
theorem ball_no {n : Int} {s r : ByteArray} {x rad : Int} (h : (ballR n s r x rad).length = 0) : ballR n s r x rad = [] := List.length_eq_zero_iff.1 h
theorem ball_yes {n : Int} {s r : ByteArray} {x rad : Int} (h : ¬ (ballR n s r x rad).length = 0) : elemB n s r x = true ∧ 0 ≤ rad ∧ rad ≤ 100 := by
  unfold ballR at h
  by_cases h1 : elemB n s r x = true
  · rw [if_pos h1] at h
    by_cases h2 : basic.inB rad 0 100 = true
    · simp [basic.inB] at h2; exact ⟨h1, h2⟩
    · rw [if_neg h2] at h; simp at h
  · rw [if_neg h1] at h; simp at h

set_option maxHeartbeats 40000000 in
set_option maxRecDepth 100000 in
theorem walk (a0 : Option Addr) (n0 c0 : Nat) (l0 : List Int) (w : World) (h0 : row.IsRow .u8 w a0 n0 c0 l0) :
    Calls Tryd.prog 14 #[.slice a0 n0 c0] w fun e w' => e = .returned (.bool true) ∧ Below w.heap.size w w' := by
  obtain ⟨by0, nc0, cm0⟩ := byt_of_row h0
  have BY0 := Lib.hid by0
  clear by0 h0
  by_cases hg0 : 1048576 < n0
  · go_enter Tryd.func14, Tryd.ntmps14
    go_wp2
    go_ret
    exact ⟨rfl, Below.refl _ _⟩
  go_enter Tryd.func14, Tryd.ntmps14
  have AW_0 : Hid (Below w.heap.size w w) := Below.refl _ _
  go_wp2_with fail
  refine (drawBall_any a0 n0 c0 _ BY0.out nc0 cm0).mono ?_
  rintro e w_1 ⟨n, s, r, x, rad, rfl, hnw, hs, hr, hxw, hrw, hb⟩
  have hbn := hb
  have AW_1 : Hid (Below w.heap.size w w_1) := AW_0.out.trans (hbn.mono AW_0.out.size)
  clear hbn AW_0 
  have FA_1 : Hid (Box 25 (w_1.alloc (.cells #[.int .i64 n, .string s, .string r] 25)) w_1.heap.size n s r) := Box.new _ _ _ rfl _ _ _
  obtain ⟨a0, a1, a2⟩ := Box.c FA_1.out
  clear hb
  have hlen : (ballR n s r x rad).length ≤ 4194304 := ball.len0 n s r x rad (by omega)
  have HLEN := Lib.hid hlen
  clear hlen
  go_wp2_with fail
  clear a0 a1 a2
  refine (implBall_any n s r x rad _ (by omega) (by omega)).mono ?_
  rintro e w_2 ⟨v, rfl, ho, hb⟩
  have hbn : Below w_1.heap.size w_1 w_2 := ((Below.refl _ w_1).alloc (Nat.le_refl _) _).trans (hb.mono (by simp))
  have FA_2 := Lib.hid (FA_1.out.below hb (by simp))
  have AW_2 : Hid (Below w.heap.size w w_2) := AW_1.out.trans (hbn.mono AW_1.out.size)
  clear hbn AW_1 FA_1
  have FL_2 := Lib.hid (ho)
  clear ho hb
  obtain ⟨ao, cl, hv⟩ := FL_2.out.reads.len
  obtain ⟨nl, hnl⟩ : ∃ q, q = (ballR n s r x rad).length := ⟨_, rfl⟩
  rw [← hnl] at hv
  subst hv
  have HNL := Lib.hid hnl
  clear hnl
  obtain ⟨a0, a1, a2⟩ := Box.c FA_2.out
  go_wp2_with fail
  clear a0 a1 a2
  refine (specBall_any n s r x rad _ hnw (by omega) (by omega)).mono ?_
  rintro e w_3 ⟨u, rfl, ho, hb⟩
  have hbn := hb
  have FA_3 := Lib.hid (FA_2.out.below hbn FA_2.out.lt)
  have FL_3 := Lib.hid (FL_2.out.below hbn (Nat.le_refl _))
  have AW_3 : Hid (Below w.heap.size w w_3) := AW_2.out.trans (hbn.mono AW_2.out.size)
  clear hbn AW_2 FA_2 FL_2
  have FU_3 := Lib.hid (ho)
  clear ho hb
  go_wp2_with fail
  refine (gsSame_same _ _ (ballR n s r x rad) _ (OwnI.reads FL_3.out) (OwnI.reads FU_3.out) (by have := HLEN.out; omega)).mono ?_
  rintro e w_4 ⟨rfl, hb⟩
  have hbn := hb
  have FA_4 := Lib.hid (FA_3.out.below hbn FA_3.out.lt)
  have FL_4 := Lib.hid (FL_3.out.below hbn (Nat.le_refl _))
  have FU_4 := Lib.hid (FU_3.out.below hbn (Nat.le_refl _))
  have AW_4 : Hid (Below w.heap.size w w_4) := AW_3.out.trans (hbn.mono AW_3.out.size)
  clear hbn AW_3 FA_3 FL_3 FU_3
  clear hb
  obtain ⟨a0, a1, a2⟩ := Box.c FA_4.out
  by_cases hval : nl = 0
  · subst hval
    go_wp2_with fail
    clear a0 a1 a2
    refine (specBall_any n s r x rad _ hnw (by omega) (by omega)).mono ?_
    rintro e w_5 ⟨u2, rfl, ho, hb⟩
    have hbn := hb
    have FA_5 := Lib.hid (FA_4.out.below hbn FA_4.out.lt)
    have FL_5 := Lib.hid (FL_4.out.below hbn (Nat.le_refl _))
    have FU_5 := Lib.hid (FU_4.out.below hbn (Nat.le_refl _))
    have AW_5 : Hid (Below w.heap.size w w_5) := AW_4.out.trans (hbn.mono AW_4.out.size)
    clear hbn AW_4 FA_4 FL_4 FU_4
    have FZ_5 := Lib.hid (ho)
    clear ho hb
    go_wp2_with fail
    refine (gsSame_same _ _ (ballR n s r x rad) _ (OwnI.reads FL_5.out) (OwnI.reads FZ_5.out) (by have := HLEN.out; omega)).mono ?_
    rintro e w_6 ⟨rfl, hb⟩
    have hbn := hb
    have FA_6 := Lib.hid (FA_5.out.below hbn FA_5.out.lt)
    have FL_6 := Lib.hid (FL_5.out.below hbn (Nat.le_refl _))
    have FU_6 := Lib.hid (FU_5.out.below hbn (Nat.le_refl _))
    have FZ_6 := Lib.hid (FZ_5.out.below hbn (Nat.le_refl _))
    have AW_6 : Hid (Below w.heap.size w w_6) := AW_5.out.trans (hbn.mono AW_5.out.size)
    clear hbn AW_5 FA_5 FL_5 FU_5 FZ_5
    clear hb
    go_wp2
    go_ret
    exact ⟨rfl, AW_6.out⟩
  obtain ⟨hvx, hr0, hr1⟩ := ball_yes (show ¬ (ballR n s r x rad).length = 0 from by rw [← HNL.out]; exact hval)
  obtain ⟨N, X, rfl, rfl, hX, hN8, hsN, hrN⟩ := valid_nat hvx
  have hpl : ballR N s r X rad = ballTo N r X rad N := by
    unfold ballR
    rw [if_pos hvx, if_pos (by simp [basic.inB]; omega)]
    rfl
  have HPL := Lib.hid hpl
  have CO := Lib.hid (con (elemB_iff.1 hvx).1 hs hr)
  have tN : ((nl : Int) == 0) = false := by simp; omega
  have hnl : nl = (ballTo N r X rad N).length := by rw [HNL.out, hpl]
  have hnl8 : nl ≤ 8 := by rw [hnl]; have := ballTo_len N r X rad N; omega
  have hnl1 : 1 ≤ nl := by omega
  have HNB := Lib.hid hnl
  clear hpl hnw hxw hrw hvx HLEN hsN hrN hs hr hnl
  obtain ⟨BB, FP⟩ : ∃ BB, Hid (OwnI 3 w_4 BB (.slice ao nl cl) (ballTo N r X rad N)) := ⟨_, by rw [Hid, ← HPL.out]; exact FL_4.out⟩
  clear HPL HNL FL_4 FU_4

  go_wp2_with fail
  clear a0 a1 a2
  go_loopw [7] (fun i wr => ∃ Y : Nat, Y ≤ N ∧ i = .int .i64 Y ∧ Below w.heap.size w wr ∧ Box 25 wr w_1.heap.size N s r ∧ OwnI 3 wr BB (.slice ao nl cl) (ballTo N r X rad N)) (fun i _ => N - (intOf i).toNat)
  case atStart => exact ⟨0, Nat.zero_le _, rfl, AW_4.out, FA_4.out, FP.out⟩
  case round =>
    clear AW_4 FA_4 FP
    obtain ⟨Y, hYN, rfl, h1, h2, h3⟩ := hrel
    have HQ := Lib.hid (show _ ∧ _ ∧ _ from ⟨h1, h2, h3⟩)
    clear h1 h2 h3
    obtain ⟨a0, a1, a2⟩ := HQ.out.2.1.c
    by_cases hY : Y < N
    · obtain ⟨d, hd⟩ : ∃ d : Int, D (adj N r) N X Y = d := ⟨_, rfl⟩
      have hlo : -1 ≤ d := by rw [← hd]; exact D_lo hX hY
      have hhi : d < N := by rw [← hd]; exact D_small hX hY
      have HD := Lib.hid hd
      clear hd
      have hd := HD
      clear HD
      go_wp2_with fail
      clear a0 a1 a2
      refine (CO.out.d X Y d hX hY hd.out _).mono ?_
      rintro er w5 ⟨rfl, hb⟩
      have hb9 := hb
      have HN5 := Lib.hid (show _ ∧ _ ∧ _ from ⟨HQ.out.1.trans (hb9.mono HQ.out.1.size), HQ.out.2.1.below hb9 HQ.out.2.1.lt, HQ.out.2.2.below hb9 (Nat.le_refl _)⟩)
      clear hb hb9 HQ
      obtain ⟨a0, a1, a2⟩ := HN5.out.2.1.c
      by_cases hcase : 0 ≤ d ∧ d ≤ rad
      · have e1 : decide (0 ≤ d) = true := by simp; omega
        have e2 : decide (d ≤ rad) = true := by simp; omega
        have HM1 : Hid (decide ((Y : Int) ∈ ballTo N r X rad N) = true) := by rw [Hid, decide_eq_true_iff, ball_mem hY, hd.out]; omega
        have HM2 : Hid (decide ((X : Int) ∈ ballTo N r Y rad N) = true) := by rw [Hid, ← HM1.out]; exact decide_eq_decide.2 (blaw.ball_symm hY hX)
        clear hcase
        have q0 : ∀ QQ : Wd (fun Q => Q.cell? ⟨w_1.heap.size, 0, none⟩ = some (.int .i64 N) ∧ Q.cell? ⟨w_1.heap.size, 1, none⟩ = some (.string s) ∧ Q.cell? ⟨w_1.heap.size, 2, none⟩ = some (.string r)), QQ.w.cell? ⟨w_1.heap.size, 0, none⟩ = some (.int .i64 N) := fun QQ => QQ.ok.1
        have q1 : ∀ QQ : Wd (fun Q => Q.cell? ⟨w_1.heap.size, 0, none⟩ = some (.int .i64 N) ∧ Q.cell? ⟨w_1.heap.size, 1, none⟩ = some (.string s) ∧ Q.cell? ⟨w_1.heap.size, 2, none⟩ = some (.string r)), QQ.w.cell? ⟨w_1.heap.size, 1, none⟩ = some (.string s) := fun QQ => QQ.ok.2.1
        have q2 : ∀ QQ : Wd (fun Q => Q.cell? ⟨w_1.heap.size, 0, none⟩ = some (.int .i64 N) ∧ Q.cell? ⟨w_1.heap.size, 1, none⟩ = some (.string s) ∧ Q.cell? ⟨w_1.heap.size, 2, none⟩ = some (.string r)), QQ.w.cell? ⟨w_1.heap.size, 2, none⟩ = some (.string r) := fun QQ => QQ.ok.2.2
        have hne : Nonempty (Wd (fun Q => Q.cell? ⟨w_1.heap.size, 0, none⟩ = some (.int .i64 N) ∧ Q.cell? ⟨w_1.heap.size, 1, none⟩ = some (.string s) ∧ Q.cell? ⟨w_1.heap.size, 2, none⟩ = some (.string r))) := ⟨⟨w5, ⟨a0, a1, a2⟩⟩⟩
        have DR := Lib.hid (HN5.out.2.2.below ((Below.refl _ w5).drew) (Nat.le_refl _))
        go_wp2_with fail
        refine chain (S := (fun Q => Q.cell? ⟨w_1.heap.size, 0, none⟩ = some (.int .i64 N) ∧ Q.cell? ⟨w_1.heap.size, 1, none⟩ = some (.string s) ∧ Q.cell? ⟨w_1.heap.size, 2, none⟩ = some (.string r))) [([true, true, false, true, true], 2), ([false, false, false, false, false, true, true, true, true, true, true, true, true, true, false, true, true, true, false, true], 14), ([], 18), ([], 20)] [false, false, false, false, false, false, false, false, false, false, false, false, false, false, false, false, false, false, false, false, false, true, true] (by kernel_rfl) (by kernel_rfl) (by kernel_rfl) ⟨a0, a1, a2⟩ ?_
        simp only [wpSegs, pickB, List.dropLast_cons_cons, List.dropLast_singleton, List.getLast?_cons_cons, List.getLast?_singleton, List.toList_toArray, List.getElem?_toArray, List.getElem?_cons_succ, List.getElem?_cons_zero, Option.toList_some]
        repeat (go_big_quiet_step (fail))
        refine wpQuiet_nil ?_
        intro K hK
        go_wp2_with fail
        refine (gsHas_any _ (ballTo N r X rad N) Y _ (OwnI.reads DR.out) (by have := ballTo_len N r X rad N; omega)).mono ?_
        rintro er WX ⟨rfl, rfl⟩
        rw [HM1.out]
        go_wp2_with fail
        refine hK _ _ ⟨a0, a1, a2⟩ ?_
        clear hK K
        repeat (go_big_quiet_step (fail))
        refine wpQuiet_nil ?_
        intro K hK
        go_wp2_with fail
        refine (gsHas_any _ (ballTo N r X rad N) Y _ (OwnI.reads DR.out) (by have := ballTo_len N r X rad N; omega)).mono ?_
        rintro er WX ⟨rfl, rfl⟩
        rw [HM1.out]
        go_wp2_with fail
        refine hK _ _ ⟨a0, a1, a2⟩ ?_
        clear hK K
        repeat (go_big_quiet_step (fail))
        refine wpQuiet_nil ?_
        intro K hK
        go_wp2_with fail
        refine (CO.out.b Y rad hY (by omega) (by omega) _).mono ?_
        rintro er w6 ⟨vb, rfl, ho, hb⟩
        have hb9 := ofDrew hb
        have HN6 := Lib.hid (show _ ∧ _ ∧ _ from ⟨HN5.out.1.trans (hb9.mono HN5.out.1.size), HN5.out.2.1.below hb9 HN5.out.2.1.lt, HN5.out.2.2.below hb9 (Nat.le_refl _)⟩)
        have OB := Lib.hid ho
        clear ho hb hb9
        go_wp2_with fail
        refine hK _ _ HN6.out.2.1.c ?_
        clear hK K
        repeat (go_big_quiet_step (fail))
        refine wpQuiet_nil ?_
        intro K hK
        go_wp2_with fail
        refine (gsHas_any _ (ballTo N r Y rad N) X _ (OwnI.reads OB.out) (by have := ballTo_len N r Y rad N; omega)).mono ?_
        rintro er WX ⟨rfl, rfl⟩
        rw [HM2.out]
        go_wp2_with fail
        refine hK _ _ HN6.out.2.1.c ?_
        clear hK K
        repeat (go_big_quiet_step (fail))
        refine wpQuiet_nil ?_
        clear q0 q1 q2 hne
        go_wp2
        go_roundw
        case rel => exact ⟨Y + 1, by omega, by go_num, HN6.out⟩
        case measure => simp [intOf]; omega
      · by_cases hcase2 : d < 0
        · have e1 : decide (0 ≤ d) = false := by simp; omega
          have HM1 : Hid (decide ((Y : Int) ∈ ballTo N r X rad N) = false) := by rw [Hid, decide_eq_false_iff_not, ball_mem hY, hd.out]; omega
          have HM2 : Hid (decide ((X : Int) ∈ ballTo N r Y rad N) = false) := by rw [Hid, ← HM1.out]; exact decide_eq_decide.2 (blaw.ball_symm hY hX)
          clear hcase hcase2
          have q0 : ∀ QQ : Wd (fun Q => Q.cell? ⟨w_1.heap.size, 0, none⟩ = some (.int .i64 N) ∧ Q.cell? ⟨w_1.heap.size, 1, none⟩ = some (.string s) ∧ Q.cell? ⟨w_1.heap.size, 2, none⟩ = some (.string r)), QQ.w.cell? ⟨w_1.heap.size, 0, none⟩ = some (.int .i64 N) := fun QQ => QQ.ok.1
          have q1 : ∀ QQ : Wd (fun Q => Q.cell? ⟨w_1.heap.size, 0, none⟩ = some (.int .i64 N) ∧ Q.cell? ⟨w_1.heap.size, 1, none⟩ = some (.string s) ∧ Q.cell? ⟨w_1.heap.size, 2, none⟩ = some (.string r)), QQ.w.cell? ⟨w_1.heap.size, 1, none⟩ = some (.string s) := fun QQ => QQ.ok.2.1
          have q2 : ∀ QQ : Wd (fun Q => Q.cell? ⟨w_1.heap.size, 0, none⟩ = some (.int .i64 N) ∧ Q.cell? ⟨w_1.heap.size, 1, none⟩ = some (.string s) ∧ Q.cell? ⟨w_1.heap.size, 2, none⟩ = some (.string r)), QQ.w.cell? ⟨w_1.heap.size, 2, none⟩ = some (.string r) := fun QQ => QQ.ok.2.2
          have hne : Nonempty (Wd (fun Q => Q.cell? ⟨w_1.heap.size, 0, none⟩ = some (.int .i64 N) ∧ Q.cell? ⟨w_1.heap.size, 1, none⟩ = some (.string s) ∧ Q.cell? ⟨w_1.heap.size, 2, none⟩ = some (.string r))) := ⟨⟨w5, ⟨a0, a1, a2⟩⟩⟩
          have DR := Lib.hid (HN5.out.2.2.below ((Below.refl _ w5).drew) (Nat.le_refl _))
          go_wp2_with fail
          refine chain (S := (fun Q => Q.cell? ⟨w_1.heap.size, 0, none⟩ = some (.int .i64 N) ∧ Q.cell? ⟨w_1.heap.size, 1, none⟩ = some (.string s) ∧ Q.cell? ⟨w_1.heap.size, 2, none⟩ = some (.string r))) [([true, true, false, true, true], 2), ([false, false, false, false, false, true, true, true, true, true, true, true, true, true, false, true, true, true, false, true], 14), ([], 18), ([], 20)] [false, false, false, false, false, false, false, false, false, false, false, false, false, false, false, false, false, false, false, false, false, true, true] (by kernel_rfl) (by kernel_rfl) (by kernel_rfl) ⟨a0, a1, a2⟩ ?_
          simp only [wpSegs, pickB, List.dropLast_cons_cons, List.dropLast_singleton, List.getLast?_cons_cons, List.getLast?_singleton, List.toList_toArray, List.getElem?_toArray, List.getElem?_cons_succ, List.getElem?_cons_zero, Option.toList_some]
          repeat (go_big_quiet_step (fail))
          refine wpQuiet_nil ?_
          intro K hK
          go_wp2_with fail
          refine (gsHas_any _ (ballTo N r X rad N) Y _ (OwnI.reads DR.out) (by have := ballTo_len N r X rad N; omega)).mono ?_
          rintro er WX ⟨rfl, rfl⟩
          rw [HM1.out]
          go_wp2_with fail
          refine hK _ _ ⟨a0, a1, a2⟩ ?_
          clear hK K
          repeat (go_big_quiet_step (fail))
          refine wpQuiet_nil ?_
          intro K hK
          go_wp2_with fail
          refine (gsHas_any _ (ballTo N r X rad N) Y _ (OwnI.reads DR.out) (by have := ballTo_len N r X rad N; omega)).mono ?_
          rintro er WX ⟨rfl, rfl⟩
          rw [HM1.out]
          go_wp2_with fail
          refine hK _ _ ⟨a0, a1, a2⟩ ?_
          clear hK K
          repeat (go_big_quiet_step (fail))
          refine wpQuiet_nil ?_
          intro K hK
          go_wp2_with fail
          refine (CO.out.b Y rad hY (by omega) (by omega) _).mono ?_
          rintro er w6 ⟨vb, rfl, ho, hb⟩
          have hb9 := ofDrew hb
          have HN6 := Lib.hid (show _ ∧ _ ∧ _ from ⟨HN5.out.1.trans (hb9.mono HN5.out.1.size), HN5.out.2.1.below hb9 HN5.out.2.1.lt, HN5.out.2.2.below hb9 (Nat.le_refl _)⟩)
          have OB := Lib.hid ho
          clear ho hb hb9
          go_wp2_with fail
          refine hK _ _ HN6.out.2.1.c ?_
          clear hK K
          repeat (go_big_quiet_step (fail))
          refine wpQuiet_nil ?_
          intro K hK
          go_wp2_with fail
          refine (gsHas_any _ (ballTo N r Y rad N) X _ (OwnI.reads OB.out) (by have := ballTo_len N r Y rad N; omega)).mono ?_
          rintro er WX ⟨rfl, rfl⟩
          rw [HM2.out]
          go_wp2_with fail
          refine hK _ _ HN6.out.2.1.c ?_
          clear hK K
          repeat (go_big_quiet_step (fail))
          refine wpQuiet_nil ?_
          clear q0 q1 q2 hne
          go_wp2
          go_roundw
          case rel => exact ⟨Y + 1, by omega, by go_num, HN6.out⟩
          case measure => simp [intOf]; omega
        · have e1 : decide (0 ≤ d) = true := by simp; omega
          have e2 : decide (d ≤ rad) = false := by simp; omega
          have HM1 : Hid (decide ((Y : Int) ∈ ballTo N r X rad N) = false) := by rw [Hid, decide_eq_false_iff_not, ball_mem hY, hd.out]; omega
          have HM2 : Hid (decide ((X : Int) ∈ ballTo N r Y rad N) = false) := by rw [Hid, ← HM1.out]; exact decide_eq_decide.2 (blaw.ball_symm hY hX)
          clear hcase hcase2
          have q0 : ∀ QQ : Wd (fun Q => Q.cell? ⟨w_1.heap.size, 0, none⟩ = some (.int .i64 N) ∧ Q.cell? ⟨w_1.heap.size, 1, none⟩ = some (.string s) ∧ Q.cell? ⟨w_1.heap.size, 2, none⟩ = some (.string r)), QQ.w.cell? ⟨w_1.heap.size, 0, none⟩ = some (.int .i64 N) := fun QQ => QQ.ok.1
          have q1 : ∀ QQ : Wd (fun Q => Q.cell? ⟨w_1.heap.size, 0, none⟩ = some (.int .i64 N) ∧ Q.cell? ⟨w_1.heap.size, 1, none⟩ = some (.string s) ∧ Q.cell? ⟨w_1.heap.size, 2, none⟩ = some (.string r)), QQ.w.cell? ⟨w_1.heap.size, 1, none⟩ = some (.string s) := fun QQ => QQ.ok.2.1
          have q2 : ∀ QQ : Wd (fun Q => Q.cell? ⟨w_1.heap.size, 0, none⟩ = some (.int .i64 N) ∧ Q.cell? ⟨w_1.heap.size, 1, none⟩ = some (.string s) ∧ Q.cell? ⟨w_1.heap.size, 2, none⟩ = some (.string r)), QQ.w.cell? ⟨w_1.heap.size, 2, none⟩ = some (.string r) := fun QQ => QQ.ok.2.2
          have hne : Nonempty (Wd (fun Q => Q.cell? ⟨w_1.heap.size, 0, none⟩ = some (.int .i64 N) ∧ Q.cell? ⟨w_1.heap.size, 1, none⟩ = some (.string s) ∧ Q.cell? ⟨w_1.heap.size, 2, none⟩ = some (.string r))) := ⟨⟨w5, ⟨a0, a1, a2⟩⟩⟩
          have DR := Lib.hid (HN5.out.2.2.below ((Below.refl _ w5).drew) (Nat.le_refl _))
          go_wp2_with fail
          refine chain (S := (fun Q => Q.cell? ⟨w_1.heap.size, 0, none⟩ = some (.int .i64 N) ∧ Q.cell? ⟨w_1.heap.size, 1, none⟩ = some (.string s) ∧ Q.cell? ⟨w_1.heap.size, 2, none⟩ = some (.string r))) [([true, true, false, true, true], 2), ([false, false, false, false, false, true, true, true, true, true, true, true, true, true, false, true, true, true, false, true], 14), ([], 18), ([], 20)] [false, false, false, false, false, false, false, false, false, false, false, false, false, false, false, false, false, false, false, false, false, true, true] (by kernel_rfl) (by kernel_rfl) (by kernel_rfl) ⟨a0, a1, a2⟩ ?_
          simp only [wpSegs, pickB, List.dropLast_cons_cons, List.dropLast_singleton, List.getLast?_cons_cons, List.getLast?_singleton, List.toList_toArray, List.getElem?_toArray, List.getElem?_cons_succ, List.getElem?_cons_zero, Option.toList_some]
          repeat (go_big_quiet_step (fail))
          refine wpQuiet_nil ?_
          intro K hK
          go_wp2_with fail
          refine (gsHas_any _ (ballTo N r X rad N) Y _ (OwnI.reads DR.out) (by have := ballTo_len N r X rad N; omega)).mono ?_
          rintro er WX ⟨rfl, rfl⟩
          rw [HM1.out]
          go_wp2_with fail
          refine hK _ _ ⟨a0, a1, a2⟩ ?_
          clear hK K
          repeat (go_big_quiet_step (fail))
          refine wpQuiet_nil ?_
          intro K hK
          go_wp2_with fail
          refine (gsHas_any _ (ballTo N r X rad N) Y _ (OwnI.reads DR.out) (by have := ballTo_len N r X rad N; omega)).mono ?_
          rintro er WX ⟨rfl, rfl⟩
          rw [HM1.out]
          go_wp2_with fail
          refine hK _ _ ⟨a0, a1, a2⟩ ?_
          clear hK K
          repeat (go_big_quiet_step (fail))
          refine wpQuiet_nil ?_
          intro K hK
          go_wp2_with fail
          refine (CO.out.b Y rad hY (by omega) (by omega) _).mono ?_
          rintro er w6 ⟨vb, rfl, ho, hb⟩
          have hb9 := ofDrew hb
          have HN6 := Lib.hid (show _ ∧ _ ∧ _ from ⟨HN5.out.1.trans (hb9.mono HN5.out.1.size), HN5.out.2.1.below hb9 HN5.out.2.1.lt, HN5.out.2.2.below hb9 (Nat.le_refl _)⟩)
          have OB := Lib.hid ho
          clear ho hb hb9
          go_wp2_with fail
          refine hK _ _ HN6.out.2.1.c ?_
          clear hK K
          repeat (go_big_quiet_step (fail))
          refine wpQuiet_nil ?_
          intro K hK
          go_wp2_with fail
          refine (gsHas_any _ (ballTo N r Y rad N) X _ (OwnI.reads OB.out) (by have := ballTo_len N r Y rad N; omega)).mono ?_
          rintro er WX ⟨rfl, rfl⟩
          rw [HM2.out]
          go_wp2_with fail
          refine hK _ _ HN6.out.2.1.c ?_
          clear hK K
          repeat (go_big_quiet_step (fail))
          refine wpQuiet_nil ?_
          clear q0 q1 q2 hne
          go_wp2
          go_roundw
          case rel => exact ⟨Y + 1, by omega, by go_num, HN6.out⟩
          case measure => simp [intOf]; omega
    · obtain rfl : N = Y := by omega
      by_cases hlt : rad < 100
      · obtain ⟨rad2, hm2⟩ : ∃ q, min (rad + 1) 100 = q := ⟨_, rfl⟩
        have HR2 : Hid (rad2 = rad + 1) := by rw [Hid, ← hm2]; omega
        go_wp2_with fail
        refine (CO.out.b X rad2 hX (by have := HR2.out; omega) (by have := HR2.out; omega) _).mono ?_
        rintro er w6 ⟨vn, rfl, ho, hb⟩
        clear hm2
        obtain ⟨BC, HQ⟩ : ∃ BC, Hid (Below w.heap.size w w6 ∧ Box 25 w6 w_1.heap.size N s r ∧ OwnI 3 w6 BB (.slice ao nl cl) (ballTo N r X rad N) ∧ OwnI 3 w6 BC vn (ballTo N r X rad2 N)) := ⟨_, HQ.out.1.trans (hb.mono HQ.out.1.size), HQ.out.2.1.below hb HQ.out.2.1.lt, HQ.out.2.2.below hb (Nat.le_refl _), ho⟩
        clear ho hb a0 a1 a2
        go_wp2_with fail
        go_loopw [10] (fun i wr => ∃ Z : Nat, Z ≤ N ∧ i = .int .i64 Z ∧ Below w.heap.size w wr ∧ Box 25 wr w_1.heap.size N s r ∧ OwnI 3 wr BB (.slice ao nl cl) (ballTo N r X rad N) ∧ OwnI 3 wr BC vn (ballTo N r X rad2 N)) (fun i _ => N - (intOf i).toNat)
        case atStart => exact ⟨0, Nat.zero_le _, rfl, HQ.out⟩
        case round =>
          clear HQ
          obtain ⟨Z, hZN, rfl, h1, h2, h3, h4⟩ := hrel
          have HQ := Lib.hid (show _ ∧ _ ∧ _ ∧ _ from ⟨h1, h2, h3, h4⟩)
          clear h1 h2 h3 h4
          obtain ⟨a0, a1, a2⟩ := HQ.out.2.1.c
          by_cases hZ : Z < N
          · obtain ⟨b0, HB0⟩ : ∃ b0, Hid (decide ((Z : Int) ∈ ballTo N r X rad N) = b0) := ⟨_, rfl⟩
            go_wp2_with fail
            refine (gsHas_any _ (ballTo N r X rad N) Z _ (OwnI.reads HQ.out.2.2.1) (by have := ballTo_len N r X rad N; omega)).mono ?_
            rintro er WX ⟨rfl, rfl⟩
            rw [HB0.out]
            go_wp2_with fail
            clear a0 a1 a2
            go_loopw [11, 12] (fun sm i wr => ∃ (j : Nat) (b : Bool), j ≤ nl ∧ i = .int .i64 j ∧ sm = .bool b ∧ b = blaw.someTo N r X rad Z j ∧ Below w.heap.size w wr ∧ Box 25 wr w_1.heap.size N s r ∧ OwnI 3 wr BB (.slice ao nl cl) (ballTo N r X rad N) ∧ OwnI 3 wr BC vn (ballTo N r X rad2 N)) (fun _ i _ => nl - (intOf i).toNat)
            case atStart => exact ⟨0, b0, Nat.zero_le _, rfl, rfl, by rw [blaw.someTo_zero]; exact HB0.out.symm, HQ.out⟩
            case round =>
              clear HQ HB0
              obtain ⟨j, b, hjn, rfl, rfl, hsm0, h1, h2, h3, h4⟩ := hrel
              have HQ := Lib.hid (show _ ∧ _ ∧ _ ∧ _ from ⟨h1, h2, h3, h4⟩)
              have hsm := Lib.hid hsm0
              clear hsm0 h1 h2 h3 h4
              obtain ⟨a0, a1, a2⟩ := HQ.out.2.1.c
              by_cases hj : j < nl
              · obtain ⟨g, og, he, hc⟩ := spot HQ.out.2.2.1.reads HNB.out hnl1
                subst he
                obtain ⟨Y, hYv, hYN, -⟩ := blaw.ball_get (N := N) (X := X) (i := j) (r := r) (rad := rad) (by rw [← HNB.out]; exact hj)
                have k1 := hc j hj
                rw [hYv] at k1
                have HS := Lib.hid (blaw.someTo_succ (Z := Z) (by rw [← HNB.out]; exact hj) hYv)
                have hgw : g < wr.heap.size := World.block_lt_of_cell? wr _ k1
                clear hc hYv
                cases b with
                | true =>
                  have q0 : ∀ QQ : Wd (fun Q => Q.cell? ⟨w_1.heap.size, 0, none⟩ = some (.int .i64 N) ∧ Q.cell? ⟨w_1.heap.size, 1, none⟩ = some (.string s) ∧ Q.cell? ⟨w_1.heap.size, 2, none⟩ = some (.string r) ∧ Q.cell? ⟨g, og + j, none⟩ = some (.int .i64 Y)), QQ.w.cell? ⟨w_1.heap.size, 0, none⟩ = some (.int .i64 N) := fun QQ => QQ.ok.1
                  have q1 : ∀ QQ : Wd (fun Q => Q.cell? ⟨w_1.heap.size, 0, none⟩ = some (.int .i64 N) ∧ Q.cell? ⟨w_1.heap.size, 1, none⟩ = some (.string s) ∧ Q.cell? ⟨w_1.heap.size, 2, none⟩ = some (.string r) ∧ Q.cell? ⟨g, og + j, none⟩ = some (.int .i64 Y)), QQ.w.cell? ⟨w_1.heap.size, 1, none⟩ = some (.string s) := fun QQ => QQ.ok.2.1
                  have q2 : ∀ QQ : Wd (fun Q => Q.cell? ⟨w_1.heap.size, 0, none⟩ = some (.int .i64 N) ∧ Q.cell? ⟨w_1.heap.size, 1, none⟩ = some (.string s) ∧ Q.cell? ⟨w_1.heap.size, 2, none⟩ = some (.string r) ∧ Q.cell? ⟨g, og + j, none⟩ = some (.int .i64 Y)), QQ.w.cell? ⟨w_1.heap.size, 2, none⟩ = some (.string r) := fun QQ => QQ.ok.2.2.1
                  have q3 : ∀ QQ : Wd (fun Q => Q.cell? ⟨w_1.heap.size, 0, none⟩ = some (.int .i64 N) ∧ Q.cell? ⟨w_1.heap.size, 1, none⟩ = some (.string s) ∧ Q.cell? ⟨w_1.heap.size, 2, none⟩ = some (.string r) ∧ Q.cell? ⟨g, og + j, none⟩ = some (.int .i64 Y)), QQ.w.cell? ⟨g, og + j, none⟩ = some (.int .i64 Y) := fun QQ => QQ.ok.2.2.2
                  have hne : Nonempty (Wd (fun Q => Q.cell? ⟨w_1.heap.size, 0, none⟩ = some (.int .i64 N) ∧ Q.cell? ⟨w_1.heap.size, 1, none⟩ = some (.string s) ∧ Q.cell? ⟨w_1.heap.size, 2, none⟩ = some (.string r) ∧ Q.cell? ⟨g, og + j, none⟩ = some (.int .i64 Y))) := ⟨⟨wr, ⟨a0, a1, a2, k1⟩⟩⟩
                  go_wp2_with fail
                  refine chain_last (S := (fun Q => Q.cell? ⟨w_1.heap.size, 0, none⟩ = some (.int .i64 N) ∧ Q.cell? ⟨w_1.heap.size, 1, none⟩ = some (.string s) ∧ Q.cell? ⟨w_1.heap.size, 2, none⟩ = some (.string r) ∧ Q.cell? ⟨g, og + j, none⟩ = some (.int .i64 Y))) [([true, true, true, true, true, true, true, false, true], 7), ([], 9)] [false, false, false, false, false, false, false, false, false, false, true] (by kernel_rfl) (by kernel_rfl) (by kernel_rfl) (by kernel_rfl) (by kernel_rfl) (by kernel_rfl) ⟨a0, a1, a2, k1⟩ ?_
                  simp only [wpSegs, pickB, List.dropLast_cons_cons, List.dropLast_singleton, List.getLast?_cons_cons, List.getLast?_singleton, List.toList_toArray, List.getElem?_toArray, List.getElem?_cons_succ, List.getElem?_cons_zero, Option.toList_some]
                  repeat (go_big_quiet_step (fail))
                  refine wpQuiet_nil ?_
                  intro K hK
                  go_wp2_with fail
                  skip
                  refine hK _ _ ⟨a0, a1, a2, k1⟩ ?_
                  clear hK K
                  repeat (go_big_quiet_step (fail))
                  refine wpQuiet_nil ?_
                  intro K hK
                  go_wp2_with fail
                  skip
                  refine hK _ _ ⟨a0, a1, a2, k1⟩ ?_
                  clear hK K
                  repeat (go_big_quiet_step (fail))
                  refine wpQuiet_nil ?_
                  show wpList _ _ _ _ _ _
                  clear q0 q1 q2 q3 hne
                  go_wp2
                  go_roundw
                  case rel =>
                    have DD : Below wr.heap.size wr wr.drew := (Below.refl _ _).drew
                    exact ⟨j + 1, true, by omega, by go_num, rfl, by rw [HS.out, ← hsm.out]; rfl, HQ.out.1.trans (DD.mono HQ.out.1.size), HQ.out.2.1.below DD HQ.out.2.1.lt, HQ.out.2.2.1.below DD (Nat.le_refl _), HQ.out.2.2.2.below DD (Nat.le_refl _)⟩
                  case measure => simp [intOf]; omega
                | false =>
                  have q0 : ∀ QQ : Wd (fun Q => Q.cell? ⟨w_1.heap.size, 0, none⟩ = some (.int .i64 N) ∧ Q.cell? ⟨w_1.heap.size, 1, none⟩ = some (.string s) ∧ Q.cell? ⟨w_1.heap.size, 2, none⟩ = some (.string r) ∧ Q.cell? ⟨g, og + j, none⟩ = some (.int .i64 Y)), QQ.w.cell? ⟨w_1.heap.size, 0, none⟩ = some (.int .i64 N) := fun QQ => QQ.ok.1
                  have q1 : ∀ QQ : Wd (fun Q => Q.cell? ⟨w_1.heap.size, 0, none⟩ = some (.int .i64 N) ∧ Q.cell? ⟨w_1.heap.size, 1, none⟩ = some (.string s) ∧ Q.cell? ⟨w_1.heap.size, 2, none⟩ = some (.string r) ∧ Q.cell? ⟨g, og + j, none⟩ = some (.int .i64 Y)), QQ.w.cell? ⟨w_1.heap.size, 1, none⟩ = some (.string s) := fun QQ => QQ.ok.2.1
                  have q2 : ∀ QQ : Wd (fun Q => Q.cell? ⟨w_1.heap.size, 0, none⟩ = some (.int .i64 N) ∧ Q.cell? ⟨w_1.heap.size, 1, none⟩ = some (.string s) ∧ Q.cell? ⟨w_1.heap.size, 2, none⟩ = some (.string r) ∧ Q.cell? ⟨g, og + j, none⟩ = some (.int .i64 Y)), QQ.w.cell? ⟨w_1.heap.size, 2, none⟩ = some (.string r) := fun QQ => QQ.ok.2.2.1
                  have q3 : ∀ QQ : Wd (fun Q => Q.cell? ⟨w_1.heap.size, 0, none⟩ = some (.int .i64 N) ∧ Q.cell? ⟨w_1.heap.size, 1, none⟩ = some (.string s) ∧ Q.cell? ⟨w_1.heap.size, 2, none⟩ = some (.string r) ∧ Q.cell? ⟨g, og + j, none⟩ = some (.int .i64 Y)), QQ.w.cell? ⟨g, og + j, none⟩ = some (.int .i64 Y) := fun QQ => QQ.ok.2.2.2
                  have hne : Nonempty (Wd (fun Q => Q.cell? ⟨w_1.heap.size, 0, none⟩ = some (.int .i64 N) ∧ Q.cell? ⟨w_1.heap.size, 1, none⟩ = some (.string s) ∧ Q.cell? ⟨w_1.heap.size, 2, none⟩ = some (.string r) ∧ Q.cell? ⟨g, og + j, none⟩ = some (.int .i64 Y))) := ⟨⟨wr, ⟨a0, a1, a2, k1⟩⟩⟩
                  go_wp2_with fail
                  obtain ⟨q, HG⟩ : ∃ q, Hid (decide ((Z : Int) ∈ nearTo N r Y N) = q) := ⟨_, rfl⟩
                  refine chain_last (S := (fun Q => Q.cell? ⟨w_1.heap.size, 0, none⟩ = some (.int .i64 N) ∧ Q.cell? ⟨w_1.heap.size, 1, none⟩ = some (.string s) ∧ Q.cell? ⟨w_1.heap.size, 2, none⟩ = some (.string r) ∧ Q.cell? ⟨g, og + j, none⟩ = some (.int .i64 Y))) [([true, true, true, true, true, true, true, false, true], 7), ([], 9)] [false, false, false, false, false, false, false, false, false, false, true] (by kernel_rfl) (by kernel_rfl) (by kernel_rfl) (by kernel_rfl) (by kernel_rfl) (by kernel_rfl) ⟨a0, a1, a2, k1⟩ ?_
                  simp only [wpSegs, pickB, List.dropLast_cons_cons, List.dropLast_singleton, List.getLast?_cons_cons, List.getLast?_singleton, List.toList_toArray, List.getElem?_toArray, List.getElem?_cons_succ, List.getElem?_cons_zero, Option.toList_some]
                  repeat (go_big_quiet_step (fail))
                  refine wpQuiet_nil ?_
                  intro K hK
                  go_wp2_with fail
                  refine (CO.out.n Y hYN _).mono ?_
                  rintro er w6 ⟨vb, rfl, ho, hb⟩
                  have hb9 := ofDrew hb
                  have HN6 := Lib.hid (show _ ∧ _ ∧ _ ∧ _ from ⟨HQ.out.1.trans (hb9.mono HQ.out.1.size), HQ.out.2.1.below hb9 HQ.out.2.1.lt, HQ.out.2.2.1.below hb9 (Nat.le_refl _), HQ.out.2.2.2.below hb9 (Nat.le_refl _)⟩)
                  have k16 := (hb9.cell hgw).trans k1
                  have OB := Lib.hid ho
                  clear ho hb hb9
                  go_wp2_with fail
                  refine hK _ _ ⟨HN6.out.2.1.c.1, HN6.out.2.1.c.2.1, HN6.out.2.1.c.2.2, k16⟩ ?_
                  clear hK K
                  repeat (go_big_quiet_step (fail))
                  refine wpQuiet_nil ?_
                  intro K hK
                  go_wp2_with fail
                  refine (gsHas_any _ (nearTo N r Y N) Z _ (OwnI.reads OB.out) (by have := nearTo_len N r Y N; omega)).mono ?_
                  rintro er WX ⟨rfl, rfl⟩
                  rw [HG.out]
                  go_wp2_with fail
                  refine hK _ _ ⟨HN6.out.2.1.c.1, HN6.out.2.1.c.2.1, HN6.out.2.1.c.2.2, k16⟩ ?_
                  clear hK K
                  repeat (go_big_quiet_step (fail))
                  refine wpQuiet_nil ?_
                  show wpList _ _ _ _ _ _
                  clear q0 q1 q2 q3 hne
                  go_wp2
                  go_roundw
                  case rel => exact ⟨j + 1, q, by omega, by go_num, rfl, by rw [HS.out, ← hsm.out, HG.out]; rfl, HN6.out⟩
                  case measure => simp [intOf]; omega
              · obtain rfl : nl = j := by omega
                have HE : Hid (decide ((Z : Int) ∈ ballTo N r X rad2 N) = b) := by rw [hsm.out, HNB.out, blaw.someTo_all hX hZ hr0, HR2.out]; rfl
                clear hsm
                go_wp2_with fail
                refine (gsHas_any _ (ballTo N r X rad2 N) Z _ (OwnI.reads HQ.out.2.2.2) (by have := ballTo_len N r X rad2 N; omega)).mono ?_
                rintro er WX ⟨rfl, rfl⟩
                rw [HE.out]
                clear a0 a1 a2
                go_wp2
                go_roundw
                case rel => exact ⟨Z + 1, by omega, by go_num, HQ.out⟩
                case measure => simp [intOf]; omega
          · obtain rfl : N = Z := by omega
            have HX : Hid (decide ((X : Int) ∈ ballTo N r X rad N) = true) := decide_eq_true (blaw.mid_ball hX hr0)
            go_wp2_with fail
            refine (gsHas_any _ (ballTo N r X rad N) X _ (OwnI.reads HQ.out.2.2.1) (by have := ballTo_len N r X rad N; omega)).mono ?_
            rintro er WX ⟨rfl, rfl⟩
            rw [HX.out]
            go_wp2
            go_ret
            exact ⟨rfl, HQ.out.1⟩
      · obtain rfl : rad = 100 := by omega
        go_wp2_with fail
        refine (CO.out.b X 100 hX (by omega) (by omega) _).mono ?_
        rintro er w6 ⟨vn, rfl, ho, hb⟩
        have HQ2 : Hid (Below w.heap.size w w6 ∧ Box 25 w6 w_1.heap.size N s r ∧ OwnI 3 w6 BB (.slice ao nl cl) (ballTo N r X 100 N)) := ⟨HQ.out.1.trans (hb.mono HQ.out.1.size), HQ.out.2.1.below hb HQ.out.2.1.lt, HQ.out.2.2.below hb (Nat.le_refl _)⟩
        clear ho hb a0 a1 a2 HQ
        go_wp2_with fail
        have hN1 : 0 < N := by omega
        go_loopw [10] (fun i wr => i = .int .i64 0 ∧ Below w.heap.size w wr ∧ Box 25 wr w_1.heap.size N s r ∧ OwnI 3 wr BB (.slice ao nl cl) (ballTo N r X 100 N)) (fun i _ => 0)
        case atStart => exact ⟨rfl, HQ2.out⟩
        case round =>
          clear HQ2
          obtain ⟨rfl, h1, h2, h3⟩ := hrel
          have HQ := Lib.hid (show _ ∧ _ ∧ _ from ⟨h1, h2, h3⟩)
          clear h1 h2 h3
          obtain ⟨a0, a1, a2⟩ := HQ.out.2.1.c
          have HX : Hid (decide ((X : Int) ∈ ballTo N r X 100 N) = true) := decide_eq_true (blaw.mid_ball hX hr0)
          go_wp2_with fail
          refine (gsHas_any _ (ballTo N r X 100 N) X _ (OwnI.reads HQ.out.2.2) (by have := ballTo_len N r X 100 N; omega)).mono ?_
          rintro er WX ⟨rfl, rfl⟩
          rw [HX.out]
          go_wp2
          go_ret
          exact ⟨rfl, HQ.out.1⟩
end Go.Proofs.YtlnmebjbinmeiaaDoor.fnBallW
