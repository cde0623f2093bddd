/- FnPieces: the walk. -/
import Derived.Test.YtlnmebjbinmeiaaDoorDrawF
import Derived.Test.YtlnmebjbinmeiaaDoorPlaw
import Derived.Test.YtlnmebjbinmeiaaDoorInRel
import Derived.Test.YtlnmebjbinmeiaaDoorPiecesS
import Derived.Test.YtlnmebjbinmeiaaDoorBallO
import Derived.Test.YtlnmebjbinmeiaaDoorGs
import Derived.Test.YtlnmebjbinmeiaaDoorRow
namespace Go.Proofs.YtlnmebjbinmeiaaDoor.fnPiecesW
set_option linter.unusedVariables false
set_option linter.unusedSimpArgs false
open Go.ChangeShapes Go.WideShapes Go.ChangeAt Go.RowKit
open Go.Proofs.YtlnmebjbinmeiaaDoor.flow Go.Proofs.YtlnmebjbinmeiaaDoor.lib Go.Proofs.YtlnmebjbinmeiaaDoor.st Go.Proofs.YtlnmebjbinmeiaaDoor.draw Go.Proofs.YtlnmebjbinmeiaaDoor.base Go.Proofs.YtlnmebjbinmeiaaDoor.near Go.Proofs.YtlnmebjbinmeiaaDoor.dist Go.Proofs.YtlnmebjbinmeiaaDoor.pieces Go.Proofs.YtlnmebjbinmeiaaDoor.cls Go.Proofs.YtlnmebjbinmeiaaDoor.chain Go.Proofs.YtlnmebjbinmeiaaDoor.gs Go.Proofs.YtlnmebjbinmeiaaDoor.ball Go.Proofs.YtlnmebjbinmeiaaDoor.inrel
/-- bytes that came in may be drawn from -/
theorem byt_of_row {w : World} {a : Option Addr} {n c : Nat} {zs : List Int} (h : row.IsRow .u8 w a n c zs) : Byt w w.heap.size a n ∧ n ≤ c ∧ c ≤ 9223372036854775807 := by
  rcases h with ⟨rfl, rfl, rfl, rfl⟩ | ⟨x, rfl, hl, hm, hz, hcell, hwf⟩
  · exact ⟨.inl rfl, Nat.le_refl _, by omega⟩
  · refine ⟨?_, hl, hm⟩
    by_cases h0 : n = 0
    · exact .inl h0
    · obtain ⟨b, off, spot⟩ := x
      have hc := hcell 0 (by omega)
      have hspot : spot = none := by simpa [Addr.add] using World.cell?_spot hc
      subst hspot
      have hlt := World.block_lt_of_cell? w _ hc
      refine .inr ⟨b, off, rfl, by simpa [Addr.add] using hlt, fun i hi => ?_⟩
      have hci := hcell i (by omega)
      have hw := hwf (zs.getD i 0) (by rw [List.getD_eq_getElem?_getD, List.getElem?_eq_getElem (by omega)]; exact List.getElem_mem _)
      have hb : 0 ≤ zs.getD i 0 ∧ zs.getD i 0 ≤ 255 := by
        generalize zs.getD i 0 = z at hw ⊢
        simp only [Lit.wf, IntKind.min, IntKind.max, IntKind.signed, IntKind.bits, Bool.and_eq_true, decide_eq_true_eq] at hw
        simp at hw
        omega
      refine ⟨(zs.getD i 0).toNat, by omega, ?_⟩
      rw [show (⟨b, off, none⟩ : Addr).add i = ⟨b, off + i, none⟩ from by simp only [Addr.add]; split <;> simp [*]] at hci
      rw [hci, show (((zs.getD i 0).toNat : Nat) : Int) = zs.getD i 0 from by omega]
theorem ofDrew {w w' : World} (h : Below w.drew.heap.size w.drew w') : Below w.heap.size w w' := by
  cases h; constructor <;> assumption
/-- the spot of a list's members -/
theorem spot {w : World} {ao : Option Addr} {nl cl : Nat} {l : List Int} (h : Reads w (.slice ao nl cl) l) (hl : nl = l.length) (h1 : 1 ≤ nl) :
    ∃ b off, ao = some ⟨b, off, none⟩ ∧ ∀ i, i < nl → w.cell? ⟨b, off + i, none⟩ = some (.int .i64 (l.getD i 0)) := by
  obtain ⟨ao', c', hv', hc', _⟩ := h
  simp only [Value.slice.injEq] at hv'
  rcases hc' with h | ⟨b, off, he, hc⟩
  · rw [h] at hl; simp at hl; omega
  · exact ⟨b, off, hv'.1.trans he, fun i hi => hc i (by omega)⟩

/-- the contracts at a valid structure -/
structure Con (N : Nat) (s r : ByteArray) : Prop where
  i : ∀ (A B : Nat) (b : Bool), A < N → B < N → bitAt r (A * N + B) = b → ∀ W : World, Calls Tryd.prog 42 #[.agg #[.int .i64 N, .string s, .string r], .int .i64 A, .int .i64 B] W fun e w' => e = .returned (.bool b) ∧ Below W.heap.size W w'
  b : ∀ (A : Nat) (rad : Int), A < N → 0 ≤ rad → rad ≤ 100 → ∀ W : World, Calls Tryd.prog 26 #[.agg #[.int .i64 N, .string s, .string r], .int .i64 A, .int .i64 rad] W fun e w' => ∃ v, e = .returned v ∧ OwnI 3 w' W.heap.size v (ballTo N r A rad N) ∧ Below W.heap.size W w'
theorem con {N : Nat} {s r : ByteArray} (hv : validB N s r = true) (hs : s.size ≤ 100) (hr : r.size ≤ 100) : Con N s r := by
  refine ⟨fun A B b hA hB hb W => ?_, fun A rad hA h0 h1 W => ?_⟩
  · have h := implInRel_any N s r A B W hv hA hB hs hr
    rw [hb] at h; exact h
  · have h := implBall_any N s r A rad W (by omega) (by omega)
    have e : ballR N s r A rad = ballTo N r A rad N := by
      unfold ballR
      rw [if_pos (elemB_iff.2 ⟨hv, by omega, by omega⟩), if_pos (by simp [basic.inB]; omega)]
      rfl
    rw [e] at h; exact h

set_option maxHeartbeats 40000000 in
set_option maxRecDepth 100000 in
theorem walk (a0 : Option Addr) (n0 c0 : Nat) (l0 : List Int) (w : World) (h0 : row.IsRow .u8 w a0 n0 c0 l0) :
    Calls Tryd.prog 13 #[.slice a0 n0 c0] w fun e w' => e = .returned (.bool true) ∧ Below w.heap.size w w' := by
  obtain ⟨by0, nc0, cm0⟩ := byt_of_row h0
  have BY0 := Lib.hid by0
  clear by0 h0
  by_cases hg0 : 1048576 < n0
  · go_enter Tryd.func13, Tryd.ntmps13
    go_wp2
    go_ret
    exact ⟨rfl, Below.refl _ _⟩
  go_enter Tryd.func13, Tryd.ntmps13
  have AW_0 : Hid (Below w.heap.size w w) := Below.refl _ _
  go_wp2_with fail
  refine (drawPieces_any a0 n0 c0 _ BY0.out nc0 cm0).mono ?_
  rintro e w_1 ⟨n, s, r, rfl, hnw, hs, hr, hb⟩
  have hbn := hb
  have AW_1 : Hid (Below w.heap.size w w_1) := AW_0.out.trans (hbn.mono AW_0.out.size)
  clear hbn AW_0 
  have FA_1 : Hid (Box 25 (w_1.alloc (.cells #[.int .i64 n, .string s, .string r] 25)) w_1.heap.size n s r) := Box.new _ _ _ rfl _ _ _
  obtain ⟨a0, a1, a2⟩ := Box.c FA_1.out
  clear hb
  have hlen : (piecesR n s r).length ≤ 4194304 := pieces.len0 n s r (by omega)
  have HLEN := Lib.hid hlen
  clear hlen
  go_wp2_with fail
  clear a0 a1 a2
  refine (implPieces_any n s r _ (by omega) (by omega)).mono ?_
  rintro e w_2 ⟨v, rfl, ho, hb⟩
  have hbn : Below w_1.heap.size w_1 w_2 := ((Below.refl _ w_1).alloc (Nat.le_refl _) _).trans (hb.mono (by simp))
  have FA_2 := Lib.hid (FA_1.out.below hb (by simp))
  have AW_2 : Hid (Below w.heap.size w w_2) := AW_1.out.trans (hbn.mono AW_1.out.size)
  clear hbn AW_1 FA_1
  have FL_2 := Lib.hid (ho)
  clear ho hb
  obtain ⟨ao, cl, hv⟩ := FL_2.out.reads.len
  obtain ⟨nl, hnl⟩ : ∃ q, q = (piecesR n s r).length := ⟨_, rfl⟩
  rw [← hnl] at hv
  subst hv
  have HNL := Lib.hid hnl
  clear hnl
  obtain ⟨a0, a1, a2⟩ := Box.c FA_2.out
  go_wp2_with fail
  clear a0 a1 a2
  refine (specPieces_any n s r _ (by omega) (by omega)).mono ?_
  rintro e w_3 ⟨u, rfl, ho, hb⟩
  have hbn := hb
  have FA_3 := Lib.hid (FA_2.out.below hbn FA_2.out.lt)
  have FL_3 := Lib.hid (FL_2.out.below hbn (Nat.le_refl _))
  have AW_3 : Hid (Below w.heap.size w w_3) := AW_2.out.trans (hbn.mono AW_2.out.size)
  clear hbn AW_2 FA_2 FL_2
  have FU_3 := Lib.hid (ho)
  clear ho hb
  go_wp2_with fail
  refine (gsSame_same _ _ (piecesR n s r) _ (OwnI.reads FL_3.out) (OwnI.reads FU_3.out) (by have := HLEN.out; omega)).mono ?_
  rintro e w_4 ⟨rfl, hb⟩
  have hbn := hb
  have FA_4 := Lib.hid (FA_3.out.below hbn FA_3.out.lt)
  have FL_4 := Lib.hid (FL_3.out.below hbn (Nat.le_refl _))
  have FU_4 := Lib.hid (FU_3.out.below hbn (Nat.le_refl _))
  have AW_4 : Hid (Below w.heap.size w w_4) := AW_3.out.trans (hbn.mono AW_3.out.size)
  clear hbn AW_3 FA_3 FL_3 FU_3
  clear hb
  obtain ⟨a0, a1, a2⟩ := Box.c FA_4.out
  by_cases hval : validB n s r = false
  · have hp : piecesR n s r = [] := by unfold piecesR; rw [hval]; rfl
    obtain rfl : nl = 0 := by rw [HNL.out, hp]; rfl
    have HV := Lib.hid hval
    have HP := Lib.hid hp
    clear hval hp
    go_wp2_with fail
    clear a0 a1 a2
    refine (specPieces_any n s r _ (by omega) (by omega)).mono ?_
    rintro e w_5 ⟨u2, rfl, ho, hb⟩
    have hbn := hb
    have FA_5 := Lib.hid (FA_4.out.below hbn FA_4.out.lt)
    have FL_5 := Lib.hid (FL_4.out.below hbn (Nat.le_refl _))
    have FU_5 := Lib.hid (FU_4.out.below hbn (Nat.le_refl _))
    have AW_5 : Hid (Below w.heap.size w w_5) := AW_4.out.trans (hbn.mono AW_4.out.size)
    clear hbn AW_4 FA_4 FL_4 FU_4
    have FZ_5 := Lib.hid (ho)
    clear ho hb
    go_wp2_with fail
    refine (gsSame_same _ _ (piecesR n s r) _ (OwnI.reads FL_5.out) (OwnI.reads FZ_5.out) (by have := HLEN.out; omega)).mono ?_
    rintro e w_6 ⟨rfl, hb⟩
    have hbn := hb
    have FA_6 := Lib.hid (FA_5.out.below hbn FA_5.out.lt)
    have FL_6 := Lib.hid (FL_5.out.below hbn (Nat.le_refl _))
    have FU_6 := Lib.hid (FU_5.out.below hbn (Nat.le_refl _))
    have FZ_6 := Lib.hid (FZ_5.out.below hbn (Nat.le_refl _))
    have AW_6 : Hid (Below w.heap.size w w_6) := AW_5.out.trans (hbn.mono AW_5.out.size)
    clear hbn AW_5 FA_5 FL_5 FU_5 FZ_5
    clear hb
    obtain ⟨a0, a1, a2⟩ := Box.c FA_6.out
    go_wp2_with fail
    clear a0 a1 a2
    refine (implValid_any n s r _ (by omega) (by omega)).mono ?_
    rintro e w_7 ⟨rfl, hb⟩
    have hbn := hb
    have FA_7 := Lib.hid (FA_6.out.below hbn FA_6.out.lt)
    have FL_7 := Lib.hid (FL_6.out.below hbn (Nat.le_refl _))
    have FU_7 := Lib.hid (FU_6.out.below hbn (Nat.le_refl _))
    have FZ_7 := Lib.hid (FZ_6.out.below hbn (Nat.le_refl _))
    have AW_7 : Hid (Below w.heap.size w w_7) := AW_6.out.trans (hbn.mono AW_6.out.size)
    clear hbn AW_6 FA_6 FL_6 FU_6 FZ_6
    clear hb
    rw [HV.out]
    go_wp2
    go_ret
    exact ⟨rfl, AW_7.out⟩
  have hvt : validB n s r = true := by simpa using hval
  clear hval
  obtain ⟨N, rfl, hN1, hN8, hsN, hrN⟩ := valid_size hvt
  have hpl : piecesR N s r = (clsOf (conn N r) N).1 := by unfold piecesR; rw [if_pos hvt]; rfl
  obtain rfl : N = nl := by rw [HNL.out, hpl]; exact (cls_len _ _).1.symm
  have HPL := Lib.hid hpl
  have CO := Lib.hid (con hvt hs hr)
  clear hpl hnw hvt HLEN
  obtain ⟨BB, FP⟩ : ∃ BB, Hid (OwnI 3 w_4 BB (.slice ao N cl) (clsOf (conn N r) N).1) := ⟨_, by rw [Hid, ← HPL.out]; exact FL_4.out⟩
  clear HPL HNL FL_4 FU_4
  have tN : ((N : Int) == 0) = false := by simp; omega
  go_wp2_with fail
  clear a0 a1 a2
  go_loopw [5, 6] (fun mo i wr => ∃ (X : Nat) (m : Int), X ≤ N ∧ i = .int .i64 X ∧ mo = .int .i64 m ∧ m = ((clsOf (conn N r) X).2 : Int) - 1 ∧ Below w.heap.size w wr ∧ Box 25 wr w_1.heap.size N s r ∧ OwnI 3 wr BB (.slice ao N cl) (clsOf (conn N r) N).1) (fun _ i _ => N - (intOf i).toNat)
  case atStart => exact ⟨0, -1, Nat.zero_le _, rfl, rfl, rfl, AW_4.out, FA_4.out, FP.out⟩
  case round =>
    clear AW_4 FA_4 FP
    obtain ⟨X, m, hXN, rfl, rfl, hm, hbl, hbx, hown⟩ := hrel
    have hm1 : -1 ≤ m := by omega
    have hm8 : m ≤ 8 := by have := (cls_len (conn N r) X).2; omega
    have HQ := Lib.hid (show _ ∧ _ ∧ _ ∧ _ from ⟨hm, hbl, hbx, hown⟩)
    clear hm hbl hbx hown
    obtain ⟨a0, a1, a2⟩ := HQ.out.2.2.1.c
    by_cases hX : X < N
    · obtain ⟨g, og, rfl, hc⟩ := spot HQ.out.2.2.2.reads (cls_len (conn N r) N).1.symm hN1
      obtain ⟨c, hcX⟩ : ∃ c : Int, (clsOf (conn N r) N).1.getD X 0 = c := ⟨_, rfl⟩
      have k1 := hc X hX
      rw [hcX] at k1
      have hmo := cls_most (p := conn N r) hX
      rw [hcX] at hmo
      have hgt : decide (m + 1 < c) = false := by have := HQ.out.1; simp; omega
      obtain ⟨m2, hm2⟩ : ∃ m2, max m c = m2 := ⟨_, rfl⟩
      have hm3 : Hid (m2 = ((clsOf (conn N r) (X + 1)).2 : Int) - 1) := by have := HQ.out.1; rw [Hid, ← hm2, this]; exact hmo.2
      have HC := Lib.hid hcX
      clear hc hcX hmo
      go_wp2_with fail
      go_loopw [7] (fun i wr => ∃ Y : Nat, Y ≤ N ∧ i = .int .i64 Y ∧ Below w.heap.size w wr ∧ Box 25 wr w_1.heap.size N s r ∧ OwnI 3 wr BB (.slice (some ⟨g, og, none⟩) N cl) (clsOf (conn N r) N).1) (fun i _ => N - (intOf i).toNat)
      case atStart => exact ⟨0, Nat.zero_le _, rfl, HQ.out.2⟩
      case round =>
        clear HQ k1 a0 a1 a2 hm2 hgt
        obtain ⟨Y, hYN, rfl, hbl, hbx, hown⟩ := hrel
        have HQ := Lib.hid (show _ ∧ _ ∧ _ from ⟨hbl, hbx, hown⟩)
        clear hbl hbx hown
        obtain ⟨a0, a1, a2⟩ := HQ.out.2.1.c
        by_cases hY : Y < N
        · obtain ⟨g', og', he, hc⟩ := spot HQ.out.2.2.reads (cls_len (conn N r) N).1.symm hN1
          simp only [Option.some.injEq, Addr.mk.injEq] at he
          obtain ⟨rfl, rfl, -⟩ := he
          obtain ⟨e, hcY⟩ : ∃ e : Int, (clsOf (conn N r) N).1.getD Y 0 = e := ⟨_, rfl⟩
          have k1 := hc X hX
          have k2 := hc Y hY
          rw [HC.out] at k1
          rw [hcY] at k2
          have hgw : g < wr.heap.size := World.block_lt_of_cell? wr _ k1
          have HD := Lib.hid hcY
          clear hc hcY
          by_cases hce : c = e
          · subst hce
            have q0 : ∀ QQ : Wd (fun Q => Q.cell? ⟨w_1.heap.size, 0, none⟩ = some (.int .i64 N) ∧ Q.cell? ⟨w_1.heap.size, 1, none⟩ = some (.string s) ∧ Q.cell? ⟨w_1.heap.size, 2, none⟩ = some (.string r) ∧ Q.cell? ⟨g, og + X, none⟩ = some (.int .i64 c) ∧ Q.cell? ⟨g, og + Y, none⟩ = some (.int .i64 c)), QQ.w.cell? ⟨w_1.heap.size, 0, none⟩ = some (.int .i64 N) := fun QQ => QQ.ok.1
            have q1 : ∀ QQ : Wd (fun Q => Q.cell? ⟨w_1.heap.size, 0, none⟩ = some (.int .i64 N) ∧ Q.cell? ⟨w_1.heap.size, 1, none⟩ = some (.string s) ∧ Q.cell? ⟨w_1.heap.size, 2, none⟩ = some (.string r) ∧ Q.cell? ⟨g, og + X, none⟩ = some (.int .i64 c) ∧ Q.cell? ⟨g, og + Y, none⟩ = some (.int .i64 c)), QQ.w.cell? ⟨w_1.heap.size, 1, none⟩ = some (.string s) := fun QQ => QQ.ok.2.1
            have q2 : ∀ QQ : Wd (fun Q => Q.cell? ⟨w_1.heap.size, 0, none⟩ = some (.int .i64 N) ∧ Q.cell? ⟨w_1.heap.size, 1, none⟩ = some (.string s) ∧ Q.cell? ⟨w_1.heap.size, 2, none⟩ = some (.string r) ∧ Q.cell? ⟨g, og + X, none⟩ = some (.int .i64 c) ∧ Q.cell? ⟨g, og + Y, none⟩ = some (.int .i64 c)), QQ.w.cell? ⟨w_1.heap.size, 2, none⟩ = some (.string r) := fun QQ => QQ.ok.2.2.1
            have q3 : ∀ QQ : Wd (fun Q => Q.cell? ⟨w_1.heap.size, 0, none⟩ = some (.int .i64 N) ∧ Q.cell? ⟨w_1.heap.size, 1, none⟩ = some (.string s) ∧ Q.cell? ⟨w_1.heap.size, 2, none⟩ = some (.string r) ∧ Q.cell? ⟨g, og + X, none⟩ = some (.int .i64 c) ∧ Q.cell? ⟨g, og + Y, none⟩ = some (.int .i64 c)), QQ.w.cell? ⟨g, og + X, none⟩ = some (.int .i64 c) := fun QQ => QQ.ok.2.2.2.1
            have q4 : ∀ QQ : Wd (fun Q => Q.cell? ⟨w_1.heap.size, 0, none⟩ = some (.int .i64 N) ∧ Q.cell? ⟨w_1.heap.size, 1, none⟩ = some (.string s) ∧ Q.cell? ⟨w_1.heap.size, 2, none⟩ = some (.string r) ∧ Q.cell? ⟨g, og + X, none⟩ = some (.int .i64 c) ∧ Q.cell? ⟨g, og + Y, none⟩ = some (.int .i64 c)), QQ.w.cell? ⟨g, og + Y, none⟩ = some (.int .i64 c) := fun QQ => QQ.ok.2.2.2.2
            have hne : Nonempty (Wd (fun Q => Q.cell? ⟨w_1.heap.size, 0, none⟩ = some (.int .i64 N) ∧ Q.cell? ⟨w_1.heap.size, 1, none⟩ = some (.string s) ∧ Q.cell? ⟨w_1.heap.size, 2, none⟩ = some (.string r) ∧ Q.cell? ⟨g, og + X, none⟩ = some (.int .i64 c) ∧ Q.cell? ⟨g, og + Y, none⟩ = some (.int .i64 c))) := ⟨⟨wr, ⟨a0, a1, a2, k1, k2⟩⟩⟩
            go_wp2_with fail
            refine chain (S := (fun Q => Q.cell? ⟨w_1.heap.size, 0, none⟩ = some (.int .i64 N) ∧ Q.cell? ⟨w_1.heap.size, 1, none⟩ = some (.string s) ∧ Q.cell? ⟨w_1.heap.size, 2, none⟩ = some (.string r) ∧ Q.cell? ⟨g, og + X, none⟩ = some (.int .i64 c) ∧ Q.cell? ⟨g, og + Y, none⟩ = some (.int .i64 c))) [([true, true, true, true, true, true, true, true, true, true, true, true, true], 13), ([false, false, false, false, false, false, false, false, false, false, false, false, false, false, true, true, true, false, true], 17), ([], 19), ([false, false, false, false, false, false, false, false, false, false, false, false, false, false, false, false, false, false, false, false, true, true, true, true, true, true, true, true, true, true, true, true, true, true, true, true, true, false, true], 37), ([], 39)] [false, false, false, false, false, false, false, false, false, false, false, false, false, false, false, false, false, false, false, false, false, false, false, false, false, false, false, false, false, false, false, false, false, false, false, false, false, false, false, false, true, true, true] (by kernel_rfl) (by kernel_rfl) (by kernel_rfl) ⟨a0, a1, a2, k1, k2⟩ ?_
            simp only [wpSegs, pickB, List.dropLast_cons_cons, List.dropLast_singleton, List.getLast?_cons_cons, List.getLast?_singleton, List.toList_toArray, List.getElem?_toArray, List.getElem?_cons_succ, List.getElem?_cons_zero, Option.toList_some]
            repeat (go_big_quiet_step (fail))
            refine wpQuiet_nil ?_
            intro K hK
            go_wp2_with fail
            skip
            refine hK _ _ ⟨a0, a1, a2, k1, k2⟩ ?_
            clear hK K
            repeat (go_big_quiet_step (fail))
            refine wpQuiet_nil ?_
            intro K hK
            go_wp2_with fail
            skip
            refine hK _ _ ⟨a0, a1, a2, k1, k2⟩ ?_
            clear hK K
            repeat (go_big_quiet_step (fail))
            refine wpQuiet_nil ?_
            intro K hK
            go_wp2_with fail
            skip
            refine hK _ _ ⟨a0, a1, a2, k1, k2⟩ ?_
            clear hK K
            repeat (go_big_quiet_step (fail))
            refine wpQuiet_nil ?_
            intro K hK
            go_wp2_with fail
            refine (CO.out.b X N hX (by omega) (by omega) _).mono ?_
            rintro er w5 ⟨vb, rfl, ho, hb⟩
            have hb9 := ofDrew hb
            have HN5 := Lib.hid (show _ ∧ _ ∧ _ from ⟨HQ.out.1.trans (hb9.mono HQ.out.1.size), HQ.out.2.1.below hb9 HQ.out.2.1.lt, HQ.out.2.2.below hb9 (Nat.le_refl _)⟩)
            have k15 := (hb9.cell hgw).trans k1
            have k25 := (hb9.cell hgw).trans k2
            have OB := Lib.hid ho
            clear ho hb hb9
            go_wp2_with fail
            refine hK _ _ ⟨HN5.out.2.1.c.1, HN5.out.2.1.c.2.1, HN5.out.2.1.c.2.2, k15, k25⟩ ?_
            clear hK K
            repeat (go_big_quiet_step (fail))
            refine wpQuiet_nil ?_
            intro K hK
            go_wp2_with fail
            have HM : Hid (decide ((Y : Int) ∈ ballTo N r X N N) = true) := decide_eq_true (one_piece hX hY (by rw [HC.out, HD.out]))
            refine (gsHas_any _ (ballTo N r X N N) Y _ (OwnI.reads OB.out) (by have := ballTo_len N r X N N; omega)).mono ?_
            rintro er WX ⟨rfl, rfl⟩
            rw [HM.out]
            go_wp2_with fail
            refine hK _ _ ⟨HN5.out.2.1.c.1, HN5.out.2.1.c.2.1, HN5.out.2.1.c.2.2, k15, k25⟩ ?_
            clear hK K
            repeat (go_big_quiet_step (fail))
            refine wpQuiet_nil ?_
            clear q0 q1 q2 q3 q4 hne
            go_wp2
            go_roundw
            case rel => exact ⟨Y + 1, by omega, by go_num, HN5.out⟩
            case measure => simp [intOf]; omega
          · have t1 : (c != e) = true := by simpa using hce
            have t2 : (c == e) = false := by simpa using hce
            have q0 : ∀ QQ : Wd (fun Q => Q.cell? ⟨w_1.heap.size, 0, none⟩ = some (.int .i64 N) ∧ Q.cell? ⟨w_1.heap.size, 1, none⟩ = some (.string s) ∧ Q.cell? ⟨w_1.heap.size, 2, none⟩ = some (.string r) ∧ Q.cell? ⟨g, og + X, none⟩ = some (.int .i64 c) ∧ Q.cell? ⟨g, og + Y, none⟩ = some (.int .i64 e)), QQ.w.cell? ⟨w_1.heap.size, 0, none⟩ = some (.int .i64 N) := fun QQ => QQ.ok.1
            have q1 : ∀ QQ : Wd (fun Q => Q.cell? ⟨w_1.heap.size, 0, none⟩ = some (.int .i64 N) ∧ Q.cell? ⟨w_1.heap.size, 1, none⟩ = some (.string s) ∧ Q.cell? ⟨w_1.heap.size, 2, none⟩ = some (.string r) ∧ Q.cell? ⟨g, og + X, none⟩ = some (.int .i64 c) ∧ Q.cell? ⟨g, og + Y, none⟩ = some (.int .i64 e)), QQ.w.cell? ⟨w_1.heap.size, 1, none⟩ = some (.string s) := fun QQ => QQ.ok.2.1
            have q2 : ∀ QQ : Wd (fun Q => Q.cell? ⟨w_1.heap.size, 0, none⟩ = some (.int .i64 N) ∧ Q.cell? ⟨w_1.heap.size, 1, none⟩ = some (.string s) ∧ Q.cell? ⟨w_1.heap.size, 2, none⟩ = some (.string r) ∧ Q.cell? ⟨g, og + X, none⟩ = some (.int .i64 c) ∧ Q.cell? ⟨g, og + Y, none⟩ = some (.int .i64 e)), QQ.w.cell? ⟨w_1.heap.size, 2, none⟩ = some (.string r) := fun QQ => QQ.ok.2.2.1
            have q3 : ∀ QQ : Wd (fun Q => Q.cell? ⟨w_1.heap.size, 0, none⟩ = some (.int .i64 N) ∧ Q.cell? ⟨w_1.heap.size, 1, none⟩ = some (.string s) ∧ Q.cell? ⟨w_1.heap.size, 2, none⟩ = some (.string r) ∧ Q.cell? ⟨g, og + X, none⟩ = some (.int .i64 c) ∧ Q.cell? ⟨g, og + Y, none⟩ = some (.int .i64 e)), QQ.w.cell? ⟨g, og + X, none⟩ = some (.int .i64 c) := fun QQ => QQ.ok.2.2.2.1
            have q4 : ∀ QQ : Wd (fun Q => Q.cell? ⟨w_1.heap.size, 0, none⟩ = some (.int .i64 N) ∧ Q.cell? ⟨w_1.heap.size, 1, none⟩ = some (.string s) ∧ Q.cell? ⟨w_1.heap.size, 2, none⟩ = some (.string r) ∧ Q.cell? ⟨g, og + X, none⟩ = some (.int .i64 c) ∧ Q.cell? ⟨g, og + Y, none⟩ = some (.int .i64 e)), QQ.w.cell? ⟨g, og + Y, none⟩ = some (.int .i64 e) := fun QQ => QQ.ok.2.2.2.2
            have hne : Nonempty (Wd (fun Q => Q.cell? ⟨w_1.heap.size, 0, none⟩ = some (.int .i64 N) ∧ Q.cell? ⟨w_1.heap.size, 1, none⟩ = some (.string s) ∧ Q.cell? ⟨w_1.heap.size, 2, none⟩ = some (.string r) ∧ Q.cell? ⟨g, og + X, none⟩ = some (.int .i64 c) ∧ Q.cell? ⟨g, og + Y, none⟩ = some (.int .i64 e))) := ⟨⟨wr, ⟨a0, a1, a2, k1, k2⟩⟩⟩
            go_wp2_with fail
            refine chain (S := (fun Q => Q.cell? ⟨w_1.heap.size, 0, none⟩ = some (.int .i64 N) ∧ Q.cell? ⟨w_1.heap.size, 1, none⟩ = some (.string s) ∧ Q.cell? ⟨w_1.heap.size, 2, none⟩ = some (.string r) ∧ Q.cell? ⟨g, og + X, none⟩ = some (.int .i64 c) ∧ Q.cell? ⟨g, og + Y, none⟩ = some (.int .i64 e))) [([true, true, true, true, true, true, true, true, true, true, true, true, true], 13), ([false, false, false, false, false, false, false, false, false, false, false, false, false, false, true, true, true, false, true], 17), ([], 19), ([false, false, false, false, false, false, false, false, false, false, false, false, false, false, false, false, false, false, false, false, true, true, true, true, true, true, true, true, true, true, true, true, true, true, true, true, true, false, true], 37), ([], 39)] [false, false, false, false, false, false, false, false, false, false, false, false, false, false, false, false, false, false, false, false, false, false, false, false, false, false, false, false, false, false, false, false, false, false, false, false, false, false, false, false, true, true, true] (by kernel_rfl) (by kernel_rfl) (by kernel_rfl) ⟨a0, a1, a2, k1, k2⟩ ?_
            simp only [wpSegs, pickB, List.dropLast_cons_cons, List.dropLast_singleton, List.getLast?_cons_cons, List.getLast?_singleton, List.toList_toArray, List.getElem?_toArray, List.getElem?_cons_succ, List.getElem?_cons_zero, Option.toList_some]
            repeat (go_big_quiet_step (fail))
            refine wpQuiet_nil ?_
            intro K hK
            go_wp2_with fail
            refine (CO.out.i X Y false hX hY (two_pieces (rad := 100) hX hY (by rw [HC.out, HD.out]; exact hce)).1 _).mono ?_
            rintro er w5 ⟨rfl, hb⟩
            have hb9 := ofDrew hb
            have HN5 := Lib.hid (show _ ∧ _ ∧ _ from ⟨HQ.out.1.trans (hb9.mono HQ.out.1.size), HQ.out.2.1.below hb9 HQ.out.2.1.lt, HQ.out.2.2.below hb9 (Nat.le_refl _)⟩)
            have k15 := (hb9.cell hgw).trans k1
            have k25 := (hb9.cell hgw).trans k2
            have hg5 := hb9.size
            clear hb hb9
            go_wp2_with fail
            refine hK _ _ ⟨HN5.out.2.1.c.1, HN5.out.2.1.c.2.1, HN5.out.2.1.c.2.2, k15, k25⟩ ?_
            clear hK K
            repeat (go_big_quiet_step (fail))
            refine wpQuiet_nil ?_
            intro K hK
            go_wp2_with fail
            refine (CO.out.b X 100 hX (by omega) (by omega) _).mono ?_
            rintro er w6 ⟨vb, rfl, ho, hb⟩
            have hb9 := hb
            have HN6 := Lib.hid (show _ ∧ _ ∧ _ from ⟨HN5.out.1.trans (hb9.mono HN5.out.1.size), HN5.out.2.1.below hb9 HN5.out.2.1.lt, HN5.out.2.2.below hb9 (Nat.le_refl _)⟩)
            have k16 := (hb9.cell (Nat.lt_of_lt_of_le hgw hg5)).trans k15
            have k26 := (hb9.cell (Nat.lt_of_lt_of_le hgw hg5)).trans k25
            have OB := Lib.hid ho
            clear ho hb hb9
            go_wp2_with fail
            refine hK _ _ ⟨HN6.out.2.1.c.1, HN6.out.2.1.c.2.1, HN6.out.2.1.c.2.2, k16, k26⟩ ?_
            clear hK K
            repeat (go_big_quiet_step (fail))
            refine wpQuiet_nil ?_
            intro K hK
            go_wp2_with fail
            have HM : Hid (decide ((Y : Int) ∈ ballTo N r X 100 N) = false) := decide_eq_false (two_pieces hX hY (by rw [HC.out, HD.out]; exact hce)).2
            refine (gsHas_any _ (ballTo N r X 100 N) Y _ (OwnI.reads OB.out) (by have := ballTo_len N r X 100 N; omega)).mono ?_
            rintro er WX ⟨rfl, rfl⟩
            rw [HM.out]
            go_wp2_with fail
            refine hK _ _ ⟨HN6.out.2.1.c.1, HN6.out.2.1.c.2.1, HN6.out.2.1.c.2.2, k16, k26⟩ ?_
            clear hK K
            repeat (go_big_quiet_step (fail))
            refine wpQuiet_nil ?_
            intro K hK
            go_wp2_with fail
            skip
            refine hK _ _ ⟨HN6.out.2.1.c.1, HN6.out.2.1.c.2.1, HN6.out.2.1.c.2.2, k16, k26⟩ ?_
            clear hK K
            repeat (go_big_quiet_step (fail))
            refine wpQuiet_nil ?_
            intro K hK
            go_wp2_with fail
            skip
            refine hK _ _ ⟨HN6.out.2.1.c.1, HN6.out.2.1.c.2.1, HN6.out.2.1.c.2.2, k16, k26⟩ ?_
            clear hK K
            repeat (go_big_quiet_step (fail))
            refine wpQuiet_nil ?_
            clear q0 q1 q2 q3 q4 hne
            go_wp2
            go_roundw
            case rel => exact ⟨Y + 1, by omega, by go_num, HN6.out⟩
            case measure => simp [intOf]; omega
        · obtain rfl : N = Y := by omega
          go_wp2
          go_roundw
          case rel => exact ⟨X + 1, m2, by omega, by go_num, rfl, hm3.out, HQ.out⟩
          case measure => simp [intOf]; omega
    · obtain rfl : N = X := by omega
      go_wp2
      go_ret
      exact ⟨rfl, HQ.out.2.1⟩
end Go.Proofs.YtlnmebjbinmeiaaDoor.fnPiecesW
