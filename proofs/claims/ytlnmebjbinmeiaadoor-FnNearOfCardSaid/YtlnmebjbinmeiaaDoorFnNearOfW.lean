/- FnNearOf: the walk. -/
import Derived.Test.YtlnmebjbinmeiaaDoorDrawF
import Derived.Test.YtlnmebjbinmeiaaDoorBlaw
import Derived.Test.YtlnmebjbinmeiaaDoorDistO
import Derived.Test.YtlnmebjbinmeiaaDoorInRel
import Derived.Test.YtlnmebjbinmeiaaDoorTurn
import Derived.Test.YtlnmebjbinmeiaaDoorGs
import Derived.Test.YtlnmebjbinmeiaaDoorRow
namespace Go.Proofs.YtlnmebjbinmeiaaDoor.fnNearW
set_option linter.unusedVariables false
set_option linter.unusedSimpArgs false
open Go.ChangeShapes Go.WideShapes Go.ChangeAt Go.RowKit
open Go.Proofs.YtlnmebjbinmeiaaDoor.flow Go.Proofs.YtlnmebjbinmeiaaDoor.lib Go.Proofs.YtlnmebjbinmeiaaDoor.st Go.Proofs.YtlnmebjbinmeiaaDoor.draw Go.Proofs.YtlnmebjbinmeiaaDoor.base Go.Proofs.YtlnmebjbinmeiaaDoor.near Go.Proofs.YtlnmebjbinmeiaaDoor.dist Go.Proofs.YtlnmebjbinmeiaaDoor.chain Go.Proofs.YtlnmebjbinmeiaaDoor.gs Go.Proofs.YtlnmebjbinmeiaaDoor.inrel Go.Proofs.YtlnmebjbinmeiaaDoor.turn Go.Proofs.YtlnmebjbinmeiaaDoor.pieces
/-- bytes that came in may be drawn from -/
theorem byt_of_row {w : World} {a : Option Addr} {n c : Nat} {zs : List Int} (h : row.IsRow .u8 w a n c zs) : Byt w w.heap.size a n ∧ n ≤ c ∧ c ≤ 9223372036854775807 := by
  rcases h with ⟨rfl, rfl, rfl, rfl⟩ | ⟨x, rfl, hl, hm, hz, hcell, hwf⟩
  · exact ⟨.inl rfl, Nat.le_refl _, by omega⟩
  · refine ⟨?_, hl, hm⟩
    by_cases h0 : n = 0
    · exact .inl h0
    · obtain ⟨b, off, spot⟩ := x
      have hc := hcell 0 (by omega)
      have hspot : spot = none := by simpa [Addr.add] using World.cell?_spot hc
      subst hspot
      have hlt := World.block_lt_of_cell? w _ hc
      refine .inr ⟨b, off, rfl, by simpa [Addr.add] using hlt, fun i hi => ?_⟩
      have hci := hcell i (by omega)
      have hw := hwf (zs.getD i 0) (by rw [List.getD_eq_getElem?_getD, List.getElem?_eq_getElem (by omega)]; exact List.getElem_mem _)
      have hb : 0 ≤ zs.getD i 0 ∧ zs.getD i 0 ≤ 255 := by
        generalize zs.getD i 0 = z at hw ⊢
        simp only [Lit.wf, IntKind.min, IntKind.max, IntKind.signed, IntKind.bits, Bool.and_eq_true, decide_eq_true_eq] at hw
        simp at hw
        omega
      refine ⟨(zs.getD i 0).toNat, by omega, ?_⟩
      rw [show (⟨b, off, none⟩ : Addr).add i = ⟨b, off + i, none⟩ from by simp only [Addr.add]; split <;> simp [*]] at hci
      rw [hci, show (((zs.getD i 0).toNat : Nat) : Int) = zs.getD i 0 from by omega]
theorem ofDrew {w w' : World} (h : Below w.drew.heap.size w.drew w') : Below w.heap.size w w' := by
  cases h; constructor <;> assumption
/-- the spot of a list's members -/
theorem spot {w : World} {ao : Option Addr} {nl cl : Nat} {l : List Int} (h : Reads w (.slice ao nl cl) l) (hl : nl = l.length) (h1 : 1 ≤ nl) :
    ∃ b off, ao = some ⟨b, off, none⟩ ∧ ∀ i, i < nl → w.cell? ⟨b, off + i, none⟩ = some (.int .i64 (l.getD i 0)) := by
  obtain ⟨ao', c', hv', hc', _⟩ := h
  simp only [Value.slice.injEq] at hv'
  rcases hc' with h | ⟨b, off, he, hc⟩
  · rw [h] at hl; simp at hl; omega
  · exact ⟨b, off, hv'.1.trans he, fun i hi => hc i (by omega)⟩

/-- the contracts at a valid structure -/
structure Con (N : Nat) (s r : ByteArray) : Prop where
  d : ∀ (A B : Nat) (d : Int), A < N → B < N → D (adj N r) N A B = d → ∀ W : World, Calls Tryd.prog 45 #[.agg #[.int .i64 N, .string s, .string r], .int .i64 A, .int .i64 B] W fun e w' => e = .returned (.int .i64 d) ∧ Below W.heap.size W w'
  n : ∀ (A : Nat), A < N → ∀ W : World, Calls Tryd.prog 47 #[.agg #[.int .i64 N, .string s, .string r], .int .i64 A] W fun e w' => ∃ v, e = .returned v ∧ OwnI 3 w' W.heap.size v (nearTo N r A N) ∧ Below W.heap.size W w'
  i : ∀ (A B : Nat) (b : Bool), A < N → B < N → bitAt r (A * N + B) = b → ∀ W : World, Calls Tryd.prog 42 #[.agg #[.int .i64 N, .string s, .string r], .int .i64 A, .int .i64 B] W fun e w' => e = .returned (.bool b) ∧ Below W.heap.size W w'
theorem con {N : Nat} {s r : ByteArray} (hv : validB N s r = true) (hs : s.size ≤ 100) (hr : r.size ≤ 100) : Con N s r := by
  have el : ∀ A : Nat, A < N → elemB N s r A = true := fun A hA => elemB_iff.2 ⟨hv, by omega, by omega⟩
  refine ⟨fun A B d hA hB hd W => ?_, fun A hA W => ?_, fun A B b hA hB hb W => ?_⟩
  · have h := implDistanceOf_any N s r A B W (by omega) (by omega)
    have e : distR N s r A B = D (adj N r) N A B := by
      unfold distR
      rw [if_pos (el A hA), if_pos (el B hB)]
      rfl
    rw [e, hd] at h; exact h
  · have h := implNearOf_any N s r A W (by omega) (by omega)
    have e : nearR N s r A = nearTo N r A N := by
      unfold nearR
      rw [if_pos (el A hA)]
      rfl
    rw [e] at h; exact h
  · have h := implInRel_any N s r A B W hv hA hB hs hr
    rw [hb] at h; exact h
theorem near_no {n : Int} {s r : ByteArray} {x : Int} (h : elemB n s r x = false) : nearR n s r x = [] := by unfold nearR; rw [h]; rfl
theorem in_near {N X Y : Nat} {r : ByteArray} (hY : Y < N) {b : Bool} (h : adj N r X Y = b) : decide ((Y : Int) ∈ nearTo N r X N) = b := by
  rw [← h]
  cases e : adj N r X Y with
  | true => exact decide_eq_true ((blaw.near_iff hY).2 e)
  | false => exact decide_eq_false fun hm => by rw [(blaw.near_iff hY).1 hm] at e; cases e

set_option maxHeartbeats 40000000 in
set_option maxRecDepth 100000 in
theorem walk (a0 : Option Addr) (n0 c0 : Nat) (l0 : List Int) (w : World) (h0 : row.IsRow .u8 w a0 n0 c0 l0) :
    Calls Tryd.prog 12 #[.slice a0 n0 c0] w fun e w' => e = .returned (.bool true) ∧ Below w.heap.size w w' := by
  obtain ⟨by0, nc0, cm0⟩ := byt_of_row h0
  have BY0 := Lib.hid by0
  clear by0 h0
  by_cases hg0 : 1048576 < n0
  · go_enter Tryd.func12, Tryd.ntmps12
    go_wp2
    go_ret
    exact ⟨rfl, Below.refl _ _⟩
  go_enter Tryd.func12, Tryd.ntmps12
  have AW_0 : Hid (Below w.heap.size w w) := Below.refl _ _
  go_wp2_with fail
  refine (drawNear_any a0 n0 c0 _ BY0.out nc0 cm0).mono ?_
  rintro e w_1 ⟨n, s, r, x, rfl, hnw, hs, hr, hxw, hb⟩
  have hbn := hb
  have AW_1 : Hid (Below w.heap.size w w_1) := AW_0.out.trans (hbn.mono AW_0.out.size)
  clear hbn AW_0 
  have FA_1 : Hid (Box 25 (w_1.alloc (.cells #[.int .i64 n, .string s, .string r] 25)) (w_1.heap.size) n s r) := Box.new _ w_1 (w_1.heap.size) (by simp) _ _ _
  obtain ⟨a0, a1, a2⟩ := Box.c FA_1.out
  clear hb
  have hlen : (nearR n s r x).length ≤ 4194304 := near.len0 n s r x (by omega)
  have HLEN := Lib.hid hlen
  clear hlen
  go_wp2_with fail
  clear a0 a1 a2
  refine (implNearOf_any n s r x _ (by omega) (by omega)).mono ?_
  rintro e w_2 ⟨v, rfl, ho, hb⟩
  have hbn : Below w_1.heap.size w_1 w_2 := ((Below.refl w_1.heap.size w_1).alloc (by simp) _).trans (hb.mono (by simp))
  have FA_2 := Lib.hid (FA_1.out.below hb (by simp))
  have AW_2 : Hid (Below w.heap.size w w_2) := AW_1.out.trans (hbn.mono AW_1.out.size)
  clear hbn AW_1 FA_1
  have FL_2 := Lib.hid (ho)
  clear ho hb
  obtain ⟨ao, cl, hv⟩ := FL_2.out.reads.len
  obtain ⟨nl, hnl⟩ : ∃ q, q = (nearR n s r x).length := ⟨_, rfl⟩
  rw [← hnl] at hv
  subst hv
  have HNL := Lib.hid hnl
  clear hnl
  obtain ⟨a0, a1, a2⟩ := Box.c FA_2.out
  go_wp2_with fail
  clear a0 a1 a2
  refine (specNearOf_any n s r x _ hnw (by omega) (by omega)).mono ?_
  rintro e w_3 ⟨u, rfl, ho, hb⟩
  have hbn := hb
  have FA_3 := Lib.hid (FA_2.out.below hbn FA_2.out.lt)
  have FL_3 := Lib.hid (FL_2.out.below hbn (Nat.le_refl _))
  have AW_3 : Hid (Below w.heap.size w w_3) := AW_2.out.trans (hbn.mono AW_2.out.size)
  clear hbn AW_2 FA_2 FL_2
  have FU_3 := Lib.hid (ho)
  clear ho hb
  go_wp2_with fail
  refine (gsSame_same _ _ (nearR n s r x) _ (OwnI.reads FL_3.out) (OwnI.reads FU_3.out) (by have := HLEN.out; omega)).mono ?_
  rintro e w_4 ⟨rfl, hb⟩
  have hbn := hb
  have FA_4 := Lib.hid (FA_3.out.below hbn FA_3.out.lt)
  have FL_4 := Lib.hid (FL_3.out.below hbn (Nat.le_refl _))
  have FU_4 := Lib.hid (FU_3.out.below hbn (Nat.le_refl _))
  have AW_4 : Hid (Below w.heap.size w w_4) := AW_3.out.trans (hbn.mono AW_3.out.size)
  clear hbn AW_3 FA_3 FL_3 FU_3
  clear hb
  obtain ⟨a0, a1, a2⟩ := Box.c FA_4.out
  go_wp2_with fail
  clear a0 a1 a2
  refine (implValid_any n s r _ (by omega) (by omega)).mono ?_
  rintro e w_5 ⟨rfl, hb⟩
  have hbn := hb
  have FA_5 := Lib.hid (FA_4.out.below hbn FA_4.out.lt)
  have FL_5 := Lib.hid (FL_4.out.below hbn (Nat.le_refl _))
  have FU_5 := Lib.hid (FU_4.out.below hbn (Nat.le_refl _))
  have AW_5 : Hid (Below w.heap.size w w_5) := AW_4.out.trans (hbn.mono AW_4.out.size)
  clear hbn AW_4 FA_4 FL_4 FU_4
  clear hb
  obtain ⟨a0, a1, a2⟩ := Box.c FA_5.out
  have HNW := Lib.hid hnw
  clear hnw
  cases hvt : validB n s r with
  | false =>
    clear hvt
    go_wp2_with fail
    clear a0 a1 a2
    refine (specNearOf_any n s r x _ HNW.out (by omega) (by omega)).mono ?_
    rintro e w_6 ⟨u2, rfl, ho, hb⟩
    have hbn := hb
    have FA_6 := Lib.hid (FA_5.out.below hbn FA_5.out.lt)
    have FL_6 := Lib.hid (FL_5.out.below hbn (Nat.le_refl _))
    have FU_6 := Lib.hid (FU_5.out.below hbn (Nat.le_refl _))
    have AW_6 : Hid (Below w.heap.size w w_6) := AW_5.out.trans (hbn.mono AW_5.out.size)
    clear hbn AW_5 FA_5 FL_5 FU_5
    have FZ_6 := Lib.hid (ho)
    clear ho hb
    go_wp2_with fail
    refine (gsSame_same _ _ (nearR n s r x) _ (OwnI.reads FL_6.out) (OwnI.reads FZ_6.out) (by have := HLEN.out; omega)).mono ?_
    rintro e w_7 ⟨rfl, hb⟩
    have hbn := hb
    have FA_7 := Lib.hid (FA_6.out.below hbn FA_6.out.lt)
    have FL_7 := Lib.hid (FL_6.out.below hbn (Nat.le_refl _))
    have FU_7 := Lib.hid (FU_6.out.below hbn (Nat.le_refl _))
    have FZ_7 := Lib.hid (FZ_6.out.below hbn (Nat.le_refl _))
    have AW_7 : Hid (Below w.heap.size w w_7) := AW_6.out.trans (hbn.mono AW_6.out.size)
    clear hbn AW_6 FA_6 FL_6 FU_6 FZ_6
    clear hb
    go_wp2
    go_ret
    exact ⟨rfl, AW_7.out⟩
  | true =>
  by_cases hx0 : x < 0
  · have HVV := Lib.hid hvt
    clear hvt
    go_wp2_with fail
    clear a0 a1 a2
    refine (specNearOf_any n s r x _ HNW.out (by omega) (by omega)).mono ?_
    rintro e w_6 ⟨u2, rfl, ho, hb⟩
    have hbn := hb
    have FA_6 := Lib.hid (FA_5.out.below hbn FA_5.out.lt)
    have FL_6 := Lib.hid (FL_5.out.below hbn (Nat.le_refl _))
    have FU_6 := Lib.hid (FU_5.out.below hbn (Nat.le_refl _))
    have AW_6 : Hid (Below w.heap.size w w_6) := AW_5.out.trans (hbn.mono AW_5.out.size)
    clear hbn AW_5 FA_5 FL_5 FU_5
    have FZ_6 := Lib.hid (ho)
    clear ho hb
    go_wp2_with fail
    refine (gsSame_same _ _ (nearR n s r x) _ (OwnI.reads FL_6.out) (OwnI.reads FZ_6.out) (by have := HLEN.out; omega)).mono ?_
    rintro e w_7 ⟨rfl, hb⟩
    have hbn := hb
    have FA_7 := Lib.hid (FA_6.out.below hbn FA_6.out.lt)
    have FL_7 := Lib.hid (FL_6.out.below hbn (Nat.le_refl _))
    have FU_7 := Lib.hid (FU_6.out.below hbn (Nat.le_refl _))
    have FZ_7 := Lib.hid (FZ_6.out.below hbn (Nat.le_refl _))
    have AW_7 : Hid (Below w.heap.size w w_7) := AW_6.out.trans (hbn.mono AW_6.out.size)
    clear hbn AW_6 FA_6 FL_6 FU_6 FZ_6
    clear hb
    go_wp2
    go_ret
    exact ⟨rfl, AW_7.out⟩
  by_cases hxn : n ≤ x
  · have HVV := Lib.hid hvt
    clear hvt
    go_wp2_with fail
    clear a0 a1 a2
    refine (specNearOf_any n s r x _ HNW.out (by omega) (by omega)).mono ?_
    rintro e w_6 ⟨u2, rfl, ho, hb⟩
    have hbn := hb
    have FA_6 := Lib.hid (FA_5.out.below hbn FA_5.out.lt)
    have FL_6 := Lib.hid (FL_5.out.below hbn (Nat.le_refl _))
    have FU_6 := Lib.hid (FU_5.out.below hbn (Nat.le_refl _))
    have AW_6 : Hid (Below w.heap.size w w_6) := AW_5.out.trans (hbn.mono AW_5.out.size)
    clear hbn AW_5 FA_5 FL_5 FU_5
    have FZ_6 := Lib.hid (ho)
    clear ho hb
    go_wp2_with fail
    refine (gsSame_same _ _ (nearR n s r x) _ (OwnI.reads FL_6.out) (OwnI.reads FZ_6.out) (by have := HLEN.out; omega)).mono ?_
    rintro e w_7 ⟨rfl, hb⟩
    have hbn := hb
    have FA_7 := Lib.hid (FA_6.out.below hbn FA_6.out.lt)
    have FL_7 := Lib.hid (FL_6.out.below hbn (Nat.le_refl _))
    have FU_7 := Lib.hid (FU_6.out.below hbn (Nat.le_refl _))
    have FZ_7 := Lib.hid (FZ_6.out.below hbn (Nat.le_refl _))
    have AW_7 : Hid (Below w.heap.size w w_7) := AW_6.out.trans (hbn.mono AW_6.out.size)
    clear hbn AW_6 FA_6 FL_6 FU_6 FZ_6
    clear hb
    go_wp2
    go_ret
    exact ⟨rfl, AW_7.out⟩
  have hvx : elemB n s r x = true := elemB_iff.2 ⟨hvt, by omega, by omega⟩
  obtain ⟨N, X, rfl, rfl, hX, hN8, hsN, hrN⟩ := valid_nat hvx
  have hpl : nearR N s r X = nearTo N r X N := by
    unfold nearR
    rw [if_pos hvx]
    rfl
  have HPL := Lib.hid hpl
  have CO := Lib.hid (con (elemB_iff.1 hvx).1 hs hr)
  have HVT := Lib.hid hvt
  have hnl : nl = (nearTo N r X N).length := by rw [HNL.out, hpl]
  have HNB := Lib.hid hnl
  have tNX : decide (N ≤ X) = false := by simp; omega
  clear hpl hxw hvx HLEN hsN hrN hs hr hnl hvt HNW
  obtain ⟨BB, FP⟩ : ∃ BB, Hid (OwnI 3 w_5 BB (.slice ao nl cl) (nearTo N r X N)) := ⟨_, by rw [Hid, ← HPL.out]; exact FL_5.out⟩
  clear HPL HNL FL_5 FU_5

  go_wp2_with fail
  clear a0 a1 a2
  go_loopw [6] (fun i wr => ∃ Y : Nat, Y ≤ N ∧ i = .int .i64 Y ∧ Below w.heap.size w wr ∧ Box 25 wr w_1.heap.size N s r ∧ OwnI 3 wr BB (.slice ao nl cl) (nearTo N r X N)) (fun i _ => N - (intOf i).toNat)
  case atStart => exact ⟨0, Nat.zero_le _, rfl, AW_5.out, FA_5.out, FP.out⟩
  case round =>
    clear AW_5 FA_5 FP
    obtain ⟨Y, hYN, rfl, h1, h2, h3⟩ := hrel
    have HQ := Lib.hid (show _ ∧ _ ∧ _ from ⟨h1, h2, h3⟩)
    clear h1 h2 h3
    obtain ⟨a0, a1, a2⟩ := HQ.out.2.1.c
    by_cases hY : Y < N
    · go_wp2_with fail
      by_cases hXY : X = Y
      · have t1 : ((X : Int) != (Y : Int)) = false := by simp; omega
        have hab : Hid (adj N r X Y = false) := by rw [Hid, ← hXY]; exact adj_irr N r X
        have hd : Hid (D (adj N r) N X Y = 0) := (D_zero hX hY).2 hXY.symm
        clear hXY
        have HM1 : Hid (decide ((Y : Int) ∈ nearTo N r X N) = false) := in_near hY hab.out
        have HM2 : Hid (decide ((X : Int) ∈ nearTo N r Y N) = false) := in_near hX (by rw [adj_symm]; exact hab.out)
        clear hab
        have q0 : ∀ QQ : Wd (fun Q => Q.cell? ⟨w_1.heap.size, 0, none⟩ = some (.int .i64 N) ∧ Q.cell? ⟨w_1.heap.size, 1, none⟩ = some (.string s) ∧ Q.cell? ⟨w_1.heap.size, 2, none⟩ = some (.string r)), QQ.w.cell? ⟨w_1.heap.size, 0, none⟩ = some (.int .i64 N) := fun QQ => QQ.ok.1
        have q1 : ∀ QQ : Wd (fun Q => Q.cell? ⟨w_1.heap.size, 0, none⟩ = some (.int .i64 N) ∧ Q.cell? ⟨w_1.heap.size, 1, none⟩ = some (.string s) ∧ Q.cell? ⟨w_1.heap.size, 2, none⟩ = some (.string r)), QQ.w.cell? ⟨w_1.heap.size, 1, none⟩ = some (.string s) := fun QQ => QQ.ok.2.1
        have q2 : ∀ QQ : Wd (fun Q => Q.cell? ⟨w_1.heap.size, 0, none⟩ = some (.int .i64 N) ∧ Q.cell? ⟨w_1.heap.size, 1, none⟩ = some (.string s) ∧ Q.cell? ⟨w_1.heap.size, 2, none⟩ = some (.string r)), QQ.w.cell? ⟨w_1.heap.size, 2, none⟩ = some (.string r) := fun QQ => QQ.ok.2.2
        have hne : Nonempty (Wd (fun Q => Q.cell? ⟨w_1.heap.size, 0, none⟩ = some (.int .i64 N) ∧ Q.cell? ⟨w_1.heap.size, 1, none⟩ = some (.string s) ∧ Q.cell? ⟨w_1.heap.size, 2, none⟩ = some (.string r))) := ⟨⟨wr, ⟨a0, a1, a2⟩⟩⟩
        have DR := Lib.hid (HQ.out.2.2.below ((Below.refl _ wr).drew) (Nat.le_refl _))
        go_wp2_with fail
        refine chain (S := (fun Q => Q.cell? ⟨w_1.heap.size, 0, none⟩ = some (.int .i64 N) ∧ Q.cell? ⟨w_1.heap.size, 1, none⟩ = some (.string s) ∧ Q.cell? ⟨w_1.heap.size, 2, none⟩ = some (.string r))) [([true, true, false, true, true, false, true], 2), ([], 5), ([], 7), ([false, false, false, false, false, false, false, false, true, true, true, true, false, true, true, true], 12), ([], 16), ([false, false, false, false, false, false, false, false, false, false, false, false, false, false, false, false, false, true, true, true, true, true, true, false, true, true, true], 23), ([false, false, false, false, false, false, false, false, false, false, false, false, false, false, false, false, false, false, false, false, false, false, false, false, false, false, false, true, true, true, true], 31), ([false, false, false, false, false, false, false, false, false, false, false, false, false, false, false, false, false, false, false, false, false, false, false, false, false, false, false, false, false, false, false, false, true, true, true, true], 36)] [false, false, false, false, false, false, false, false, false, false, false, false, false, false, false, false, false, false, false, false, false, false, false, false, false, false, false, false, false, false, false, false, false, false, false, false, false, true, true, true, true] (by kernel_rfl) (by kernel_rfl) (by kernel_rfl) ⟨a0, a1, a2⟩ ?_
        simp only [wpSegs, pickB, List.dropLast_cons_cons, List.dropLast_singleton, List.getLast?_cons_cons, List.getLast?_singleton, List.toList_toArray, List.getElem?_toArray, List.getElem?_cons_succ, List.getElem?_cons_zero, Option.toList_some]
        repeat (go_big_quiet_step (fail))
        refine wpQuiet_nil ?_
        intro K hK
        go_wp2_with fail
        refine (gsHas_any _ (nearTo N r X N) Y _ (OwnI.reads DR.out) (by have := nearTo_len N r X N; omega)).mono ?_
        rintro er WX ⟨rfl, rfl⟩
        rw [HM1.out]
        go_wp2_with fail
        refine hK _ _ ⟨a0, a1, a2⟩ ?_
        clear hK K
        repeat (go_big_quiet_step (fail))
        refine wpQuiet_nil ?_
        intro K hK
        go_wp2_with fail
        refine (CO.out.n Y hY _).mono ?_
        rintro er w6 ⟨vb, rfl, ho, hb⟩
        have hb9 := ofDrew hb
        have HN6 := Lib.hid (show _ ∧ _ ∧ _ from ⟨HQ.out.1.trans (hb9.mono HQ.out.1.size), HQ.out.2.1.below hb9 HQ.out.2.1.lt, HQ.out.2.2.below hb9 (Nat.le_refl _)⟩)
        have OB := Lib.hid ho
        clear ho
        clear hb hb9
        go_wp2_with fail
        refine hK _ _ HN6.out.2.1.c ?_
        clear hK K
        repeat (go_big_quiet_step (fail))
        refine wpQuiet_nil ?_
        intro K hK
        go_wp2_with fail
        refine (gsHas_any _ (nearTo N r Y N) X _ (OwnI.reads OB.out) (by have := nearTo_len N r Y N; omega)).mono ?_
        rintro er WX ⟨rfl, rfl⟩
        rw [HM2.out]
        go_wp2_with fail
        refine hK _ _ HN6.out.2.1.c ?_
        clear hK K
        repeat (go_big_quiet_step (fail))
        refine wpQuiet_nil ?_
        intro K hK
        go_wp2_with fail
        refine (gsHas_any _ (nearTo N r X N) Y _ (OwnI.reads HN6.out.2.2) (by have := nearTo_len N r X N; omega)).mono ?_
        rintro er WX ⟨rfl, rfl⟩
        rw [HM1.out]
        go_wp2_with fail
        refine hK _ _ HN6.out.2.1.c ?_
        clear hK K
        repeat (go_big_quiet_step (fail))
        refine wpQuiet_nil ?_
        intro K hK
        go_wp2_with fail
        refine (CO.out.d X Y _ hX hY hd.out _).mono ?_
        rintro er w7 ⟨rfl, hb⟩
        have hb9 := hb
        have HN7 := Lib.hid (show _ ∧ _ ∧ _ from ⟨HN6.out.1.trans (hb9.mono HN6.out.1.size), HN6.out.2.1.below hb9 HN6.out.2.1.lt, HN6.out.2.2.below hb9 (Nat.le_refl _)⟩)
        clear hb hb9
        go_wp2_with fail
        refine hK _ _ HN7.out.2.1.c ?_
        clear hK K
        repeat (go_big_quiet_step (fail))
        refine wpQuiet_nil ?_
        intro K hK
        go_wp2_with fail
        refine (gsHas_any _ (nearTo N r X N) Y _ (OwnI.reads HN7.out.2.2) (by have := nearTo_len N r X N; omega)).mono ?_
        rintro er WX ⟨rfl, rfl⟩
        rw [HM1.out]
        go_wp2_with fail
        refine hK _ _ HN7.out.2.1.c ?_
        clear hK K
        repeat (go_big_quiet_step (fail))
        refine wpQuiet_nil ?_
        intro K hK
        go_wp2_with fail
        skip
        refine hK _ _ HN7.out.2.1.c ?_
        clear hK K
        repeat (go_big_quiet_step (fail))
        refine wpQuiet_nil ?_
        intro K hK
        go_wp2_with fail
        skip
        refine hK _ _ HN7.out.2.1.c ?_
        clear hK K
        repeat (go_big_quiet_step (fail))
        refine wpQuiet_nil ?_
        clear q0 q1 q2 hne
        go_wp2
        go_roundw
        case rel => first | exact ⟨Y + 1, by omega, by go_num, HN7.out⟩ | ((repeat apply Exists.intro); exact ⟨⟨Y + 1, by omega, by go_num, HN7.out⟩, rfl⟩)
        case measure => simp [intOf]; omega
      cases hrxy : bitAt r (X * N + Y) with
      | true =>
        have t1 : ((X : Int) != (Y : Int)) = true := by simp; omega
        have hxy : Hid (bitAt r (X * N + Y) = true) := hrxy
        have hab : Hid (adj N r X Y = true) := by rw [Hid, adj, hrxy]; simp; omega
        have hd : Hid (D (adj N r) N X Y = 1) := (D_one (adj_irr N r) hX hY).2 hab.out
        clear hrxy hXY
        have HM1 : Hid (decide ((Y : Int) ∈ nearTo N r X N) = true) := in_near hY hab.out
        have HM2 : Hid (decide ((X : Int) ∈ nearTo N r Y N) = true) := in_near hX (by rw [adj_symm]; exact hab.out)
        clear hab
        have q0 : ∀ QQ : Wd (fun Q => Q.cell? ⟨w_1.heap.size, 0, none⟩ = some (.int .i64 N) ∧ Q.cell? ⟨w_1.heap.size, 1, none⟩ = some (.string s) ∧ Q.cell? ⟨w_1.heap.size, 2, none⟩ = some (.string r)), QQ.w.cell? ⟨w_1.heap.size, 0, none⟩ = some (.int .i64 N) := fun QQ => QQ.ok.1
        have q1 : ∀ QQ : Wd (fun Q => Q.cell? ⟨w_1.heap.size, 0, none⟩ = some (.int .i64 N) ∧ Q.cell? ⟨w_1.heap.size, 1, none⟩ = some (.string s) ∧ Q.cell? ⟨w_1.heap.size, 2, none⟩ = some (.string r)), QQ.w.cell? ⟨w_1.heap.size, 1, none⟩ = some (.string s) := fun QQ => QQ.ok.2.1
        have q2 : ∀ QQ : Wd (fun Q => Q.cell? ⟨w_1.heap.size, 0, none⟩ = some (.int .i64 N) ∧ Q.cell? ⟨w_1.heap.size, 1, none⟩ = some (.string s) ∧ Q.cell? ⟨w_1.heap.size, 2, none⟩ = some (.string r)), QQ.w.cell? ⟨w_1.heap.size, 2, none⟩ = some (.string r) := fun QQ => QQ.ok.2.2
        have hne : Nonempty (Wd (fun Q => Q.cell? ⟨w_1.heap.size, 0, none⟩ = some (.int .i64 N) ∧ Q.cell? ⟨w_1.heap.size, 1, none⟩ = some (.string s) ∧ Q.cell? ⟨w_1.heap.size, 2, none⟩ = some (.string r))) := ⟨⟨wr, ⟨a0, a1, a2⟩⟩⟩
        have DR := Lib.hid (HQ.out.2.2.below ((Below.refl _ wr).drew) (Nat.le_refl _))
        go_wp2_with fail
        refine chain (S := (fun Q => Q.cell? ⟨w_1.heap.size, 0, none⟩ = some (.int .i64 N) ∧ Q.cell? ⟨w_1.heap.size, 1, none⟩ = some (.string s) ∧ Q.cell? ⟨w_1.heap.size, 2, none⟩ = some (.string r))) [([true, true, false, true, true, false, true], 2), ([], 5), ([], 7), ([false, false, false, false, false, false, false, false, true, true, true, true, false, true, true, true], 12), ([], 16), ([false, false, false, false, false, false, false, false, false, false, false, false, false, false, false, false, false, true, true, true, true, true, true, false, true, true, true], 23), ([false, false, false, false, false, false, false, false, false, false, false, false, false, false, false, false, false, false, false, false, false, false, false, false, false, false, false, true, true, true, true], 31), ([false, false, false, false, false, false, false, false, false, false, false, false, false, false, false, false, false, false, false, false, false, false, false, false, false, false, false, false, false, false, false, false, true, true, true, true], 36)] [false, false, false, false, false, false, false, false, false, false, false, false, false, false, false, false, false, false, false, false, false, false, false, false, false, false, false, false, false, false, false, false, false, false, false, false, false, true, true, true, true] (by kernel_rfl) (by kernel_rfl) (by kernel_rfl) ⟨a0, a1, a2⟩ ?_
        simp only [wpSegs, pickB, List.dropLast_cons_cons, List.dropLast_singleton, List.getLast?_cons_cons, List.getLast?_singleton, List.toList_toArray, List.getElem?_toArray, List.getElem?_cons_succ, List.getElem?_cons_zero, Option.toList_some]
        repeat (go_big_quiet_step (fail))
        refine wpQuiet_nil ?_
        intro K hK
        go_wp2_with fail
        refine (gsHas_any _ (nearTo N r X N) Y _ (OwnI.reads DR.out) (by have := nearTo_len N r X N; omega)).mono ?_
        rintro er WX ⟨rfl, rfl⟩
        rw [HM1.out]
        go_wp2_with fail
        refine hK _ _ ⟨a0, a1, a2⟩ ?_
        clear hK K
        repeat (go_big_quiet_step (fail))
        refine wpQuiet_nil ?_
        intro K hK
        go_wp2_with fail
        refine (CO.out.n Y hY _).mono ?_
        rintro er w6 ⟨vb, rfl, ho, hb⟩
        have hb9 := ofDrew hb
        have HN6 := Lib.hid (show _ ∧ _ ∧ _ from ⟨HQ.out.1.trans (hb9.mono HQ.out.1.size), HQ.out.2.1.below hb9 HQ.out.2.1.lt, HQ.out.2.2.below hb9 (Nat.le_refl _)⟩)
        have OB := Lib.hid ho
        clear ho
        clear hb hb9
        go_wp2_with fail
        refine hK _ _ HN6.out.2.1.c ?_
        clear hK K
        repeat (go_big_quiet_step (fail))
        refine wpQuiet_nil ?_
        intro K hK
        go_wp2_with fail
        refine (gsHas_any _ (nearTo N r Y N) X _ (OwnI.reads OB.out) (by have := nearTo_len N r Y N; omega)).mono ?_
        rintro er WX ⟨rfl, rfl⟩
        rw [HM2.out]
        go_wp2_with fail
        refine hK _ _ HN6.out.2.1.c ?_
        clear hK K
        repeat (go_big_quiet_step (fail))
        refine wpQuiet_nil ?_
        intro K hK
        go_wp2_with fail
        refine (gsHas_any _ (nearTo N r X N) Y _ (OwnI.reads HN6.out.2.2) (by have := nearTo_len N r X N; omega)).mono ?_
        rintro er WX ⟨rfl, rfl⟩
        rw [HM1.out]
        go_wp2_with fail
        refine hK _ _ HN6.out.2.1.c ?_
        clear hK K
        repeat (go_big_quiet_step (fail))
        refine wpQuiet_nil ?_
        intro K hK
        go_wp2_with fail
        refine (CO.out.d X Y _ hX hY hd.out _).mono ?_
        rintro er w7 ⟨rfl, hb⟩
        have hb9 := hb
        have HN7 := Lib.hid (show _ ∧ _ ∧ _ from ⟨HN6.out.1.trans (hb9.mono HN6.out.1.size), HN6.out.2.1.below hb9 HN6.out.2.1.lt, HN6.out.2.2.below hb9 (Nat.le_refl _)⟩)
        clear hb hb9
        go_wp2_with fail
        refine hK _ _ HN7.out.2.1.c ?_
        clear hK K
        repeat (go_big_quiet_step (fail))
        refine wpQuiet_nil ?_
        intro K hK
        go_wp2_with fail
        refine (gsHas_any _ (nearTo N r X N) Y _ (OwnI.reads HN7.out.2.2) (by have := nearTo_len N r X N; omega)).mono ?_
        rintro er WX ⟨rfl, rfl⟩
        rw [HM1.out]
        go_wp2_with fail
        refine hK _ _ HN7.out.2.1.c ?_
        clear hK K
        repeat (go_big_quiet_step (fail))
        refine wpQuiet_nil ?_
        intro K hK
        go_wp2_with fail
        refine (CO.out.i X Y _ hX hY hxy.out _).mono ?_
        rintro er w8 ⟨rfl, hb⟩
        have hb9 := hb
        have HN8 := Lib.hid (show _ ∧ _ ∧ _ from ⟨HN7.out.1.trans (hb9.mono HN7.out.1.size), HN7.out.2.1.below hb9 HN7.out.2.1.lt, HN7.out.2.2.below hb9 (Nat.le_refl _)⟩)
        clear hb hb9
        go_wp2_with fail
        refine hK _ _ HN8.out.2.1.c ?_
        clear hK K
        repeat (go_big_quiet_step (fail))
        refine wpQuiet_nil ?_
        intro K hK
        go_wp2_with fail
        skip
        refine hK _ _ HN8.out.2.1.c ?_
        clear hK K
        repeat (go_big_quiet_step (fail))
        refine wpQuiet_nil ?_
        clear q0 q1 q2 hne
        go_wp2
        go_roundw
        case rel => first | exact ⟨Y + 1, by omega, by go_num, HN8.out⟩ | ((repeat apply Exists.intro); exact ⟨⟨Y + 1, by omega, by go_num, HN8.out⟩, rfl⟩)
        case measure => simp [intOf]; omega
      | false =>
        have t1 : ((X : Int) != (Y : Int)) = true := by simp; omega
        have hxy : Hid (bitAt r (X * N + Y) = false) := hrxy
        clear hrxy
        cases hryx : bitAt r (Y * N + X) with
        | true =>
          have hyx : Hid (bitAt r (Y * N + X) = true) := hryx
          have hab : Hid (adj N r X Y = true) := by rw [Hid, adj, hryx]; simp; omega
          have hd : Hid (D (adj N r) N X Y = 1) := (D_one (adj_irr N r) hX hY).2 hab.out
          clear hryx hXY
          have HM1 : Hid (decide ((Y : Int) ∈ nearTo N r X N) = true) := in_near hY hab.out
          have HM2 : Hid (decide ((X : Int) ∈ nearTo N r Y N) = true) := in_near hX (by rw [adj_symm]; exact hab.out)
          clear hab
          have q0 : ∀ QQ : Wd (fun Q => Q.cell? ⟨w_1.heap.size, 0, none⟩ = some (.int .i64 N) ∧ Q.cell? ⟨w_1.heap.size, 1, none⟩ = some (.string s) ∧ Q.cell? ⟨w_1.heap.size, 2, none⟩ = some (.string r)), QQ.w.cell? ⟨w_1.heap.size, 0, none⟩ = some (.int .i64 N) := fun QQ => QQ.ok.1
          have q1 : ∀ QQ : Wd (fun Q => Q.cell? ⟨w_1.heap.size, 0, none⟩ = some (.int .i64 N) ∧ Q.cell? ⟨w_1.heap.size, 1, none⟩ = some (.string s) ∧ Q.cell? ⟨w_1.heap.size, 2, none⟩ = some (.string r)), QQ.w.cell? ⟨w_1.heap.size, 1, none⟩ = some (.string s) := fun QQ => QQ.ok.2.1
          have q2 : ∀ QQ : Wd (fun Q => Q.cell? ⟨w_1.heap.size, 0, none⟩ = some (.int .i64 N) ∧ Q.cell? ⟨w_1.heap.size, 1, none⟩ = some (.string s) ∧ Q.cell? ⟨w_1.heap.size, 2, none⟩ = some (.string r)), QQ.w.cell? ⟨w_1.heap.size, 2, none⟩ = some (.string r) := fun QQ => QQ.ok.2.2
          have hne : Nonempty (Wd (fun Q => Q.cell? ⟨w_1.heap.size, 0, none⟩ = some (.int .i64 N) ∧ Q.cell? ⟨w_1.heap.size, 1, none⟩ = some (.string s) ∧ Q.cell? ⟨w_1.heap.size, 2, none⟩ = some (.string r))) := ⟨⟨wr, ⟨a0, a1, a2⟩⟩⟩
          have DR := Lib.hid (HQ.out.2.2.below ((Below.refl _ wr).drew) (Nat.le_refl _))
          go_wp2_with fail
          refine chain (S := (fun Q => Q.cell? ⟨w_1.heap.size, 0, none⟩ = some (.int .i64 N) ∧ Q.cell? ⟨w_1.heap.size, 1, none⟩ = some (.string s) ∧ Q.cell? ⟨w_1.heap.size, 2, none⟩ = some (.string r))) [([true, true, false, true, true, false, true], 2), ([], 5), ([], 7), ([false, false, false, false, false, false, false, false, true, true, true, true, false, true, true, true], 12), ([], 16), ([false, false, false, false, false, false, false, false, false, false, false, false, false, false, false, false, false, true, true, true, true, true, true, false, true, true, true], 23), ([false, false, false, false, false, false, false, false, false, false, false, false, false, false, false, false, false, false, false, false, false, false, false, false, false, false, false, true, true, true, true], 31), ([false, false, false, false, false, false, false, false, false, false, false, false, false, false, false, false, false, false, false, false, false, false, false, false, false, false, false, false, false, false, false, false, true, true, true, true], 36)] [false, false, false, false, false, false, false, false, false, false, false, false, false, false, false, false, false, false, false, false, false, false, false, false, false, false, false, false, false, false, false, false, false, false, false, false, false, true, true, true, true] (by kernel_rfl) (by kernel_rfl) (by kernel_rfl) ⟨a0, a1, a2⟩ ?_
          simp only [wpSegs, pickB, List.dropLast_cons_cons, List.dropLast_singleton, List.getLast?_cons_cons, List.getLast?_singleton, List.toList_toArray, List.getElem?_toArray, List.getElem?_cons_succ, List.getElem?_cons_zero, Option.toList_some]
          repeat (go_big_quiet_step (fail))
          refine wpQuiet_nil ?_
          intro K hK
          go_wp2_with fail
          refine (gsHas_any _ (nearTo N r X N) Y _ (OwnI.reads DR.out) (by have := nearTo_len N r X N; omega)).mono ?_
          rintro er WX ⟨rfl, rfl⟩
          rw [HM1.out]
          go_wp2_with fail
          refine hK _ _ ⟨a0, a1, a2⟩ ?_
          clear hK K
          repeat (go_big_quiet_step (fail))
          refine wpQuiet_nil ?_
          intro K hK
          go_wp2_with fail
          refine (CO.out.n Y hY _).mono ?_
          rintro er w6 ⟨vb, rfl, ho, hb⟩
          have hb9 := ofDrew hb
          have HN6 := Lib.hid (show _ ∧ _ ∧ _ from ⟨HQ.out.1.trans (hb9.mono HQ.out.1.size), HQ.out.2.1.below hb9 HQ.out.2.1.lt, HQ.out.2.2.below hb9 (Nat.le_refl _)⟩)
          have OB := Lib.hid ho
          clear ho
          clear hb hb9
          go_wp2_with fail
          refine hK _ _ HN6.out.2.1.c ?_
          clear hK K
          repeat (go_big_quiet_step (fail))
          refine wpQuiet_nil ?_
          intro K hK
          go_wp2_with fail
          refine (gsHas_any _ (nearTo N r Y N) X _ (OwnI.reads OB.out) (by have := nearTo_len N r Y N; omega)).mono ?_
          rintro er WX ⟨rfl, rfl⟩
          rw [HM2.out]
          go_wp2_with fail
          refine hK _ _ HN6.out.2.1.c ?_
          clear hK K
          repeat (go_big_quiet_step (fail))
          refine wpQuiet_nil ?_
          intro K hK
          go_wp2_with fail
          refine (gsHas_any _ (nearTo N r X N) Y _ (OwnI.reads HN6.out.2.2) (by have := nearTo_len N r X N; omega)).mono ?_
          rintro er WX ⟨rfl, rfl⟩
          rw [HM1.out]
          go_wp2_with fail
          refine hK _ _ HN6.out.2.1.c ?_
          clear hK K
          repeat (go_big_quiet_step (fail))
          refine wpQuiet_nil ?_
          intro K hK
          go_wp2_with fail
          refine (CO.out.d X Y _ hX hY hd.out _).mono ?_
          rintro er w7 ⟨rfl, hb⟩
          have hb9 := hb
          have HN7 := Lib.hid (show _ ∧ _ ∧ _ from ⟨HN6.out.1.trans (hb9.mono HN6.out.1.size), HN6.out.2.1.below hb9 HN6.out.2.1.lt, HN6.out.2.2.below hb9 (Nat.le_refl _)⟩)
          clear hb hb9
          go_wp2_with fail
          refine hK _ _ HN7.out.2.1.c ?_
          clear hK K
          repeat (go_big_quiet_step (fail))
          refine wpQuiet_nil ?_
          intro K hK
          go_wp2_with fail
          refine (gsHas_any _ (nearTo N r X N) Y _ (OwnI.reads HN7.out.2.2) (by have := nearTo_len N r X N; omega)).mono ?_
          rintro er WX ⟨rfl, rfl⟩
          rw [HM1.out]
          go_wp2_with fail
          refine hK _ _ HN7.out.2.1.c ?_
          clear hK K
          repeat (go_big_quiet_step (fail))
          refine wpQuiet_nil ?_
          intro K hK
          go_wp2_with fail
          refine (CO.out.i X Y _ hX hY hxy.out _).mono ?_
          rintro er w8 ⟨rfl, hb⟩
          have hb9 := hb
          have HN8 := Lib.hid (show _ ∧ _ ∧ _ from ⟨HN7.out.1.trans (hb9.mono HN7.out.1.size), HN7.out.2.1.below hb9 HN7.out.2.1.lt, HN7.out.2.2.below hb9 (Nat.le_refl _)⟩)
          clear hb hb9
          go_wp2_with fail
          refine hK _ _ HN8.out.2.1.c ?_
          clear hK K
          repeat (go_big_quiet_step (fail))
          refine wpQuiet_nil ?_
          intro K hK
          go_wp2_with fail
          refine (CO.out.i Y X _ hY hX hyx.out _).mono ?_
          rintro er w9 ⟨rfl, hb⟩
          have hb9 := hb
          have HN9 := Lib.hid (show _ ∧ _ ∧ _ from ⟨HN8.out.1.trans (hb9.mono HN8.out.1.size), HN8.out.2.1.below hb9 HN8.out.2.1.lt, HN8.out.2.2.below hb9 (Nat.le_refl _)⟩)
          clear hb hb9
          go_wp2_with fail
          refine hK _ _ HN9.out.2.1.c ?_
          clear hK K
          repeat (go_big_quiet_step (fail))
          refine wpQuiet_nil ?_
          clear q0 q1 q2 hne
          go_wp2
          go_roundw
          case rel => first | exact ⟨Y + 1, by omega, by go_num, HN9.out⟩ | ((repeat apply Exists.intro); exact ⟨⟨Y + 1, by omega, by go_num, HN9.out⟩, rfl⟩)
          case measure => simp [intOf]; omega
        | false =>
          have hyx : Hid (bitAt r (Y * N + X) = false) := hryx
          have hab : Hid (adj N r X Y = false) := by rw [Hid, adj, hxy.out, hryx]; simp
          obtain ⟨d, hd⟩ : ∃ d : Int, Hid (D (adj N r) N X Y = d) := ⟨_, rfl⟩
          have hd1 : ¬ d = 1 := fun h => by have := (D_one (adj_irr N r) hX hY).1 (hd.out.trans h); rw [hab.out] at this; cases this
          have t3 : (d == 1) = false := by simpa using hd1
          clear hryx hXY hd1
          have HM1 : Hid (decide ((Y : Int) ∈ nearTo N r X N) = false) := in_near hY hab.out
          have HM2 : Hid (decide ((X : Int) ∈ nearTo N r Y N) = false) := in_near hX (by rw [adj_symm]; exact hab.out)
          clear hab
          have q0 : ∀ QQ : Wd (fun Q => Q.cell? ⟨w_1.heap.size, 0, none⟩ = some (.int .i64 N) ∧ Q.cell? ⟨w_1.heap.size, 1, none⟩ = some (.string s) ∧ Q.cell? ⟨w_1.heap.size, 2, none⟩ = some (.string r)), QQ.w.cell? ⟨w_1.heap.size, 0, none⟩ = some (.int .i64 N) := fun QQ => QQ.ok.1
          have q1 : ∀ QQ : Wd (fun Q => Q.cell? ⟨w_1.heap.size, 0, none⟩ = some (.int .i64 N) ∧ Q.cell? ⟨w_1.heap.size, 1, none⟩ = some (.string s) ∧ Q.cell? ⟨w_1.heap.size, 2, none⟩ = some (.string r)), QQ.w.cell? ⟨w_1.heap.size, 1, none⟩ = some (.string s) := fun QQ => QQ.ok.2.1
          have q2 : ∀ QQ : Wd (fun Q => Q.cell? ⟨w_1.heap.size, 0, none⟩ = some (.int .i64 N) ∧ Q.cell? ⟨w_1.heap.size, 1, none⟩ = some (.string s) ∧ Q.cell? ⟨w_1.heap.size, 2, none⟩ = some (.string r)), QQ.w.cell? ⟨w_1.heap.size, 2, none⟩ = some (.string r) := fun QQ => QQ.ok.2.2
          have hne : Nonempty (Wd (fun Q => Q.cell? ⟨w_1.heap.size, 0, none⟩ = some (.int .i64 N) ∧ Q.cell? ⟨w_1.heap.size, 1, none⟩ = some (.string s) ∧ Q.cell? ⟨w_1.heap.size, 2, none⟩ = some (.string r))) := ⟨⟨wr, ⟨a0, a1, a2⟩⟩⟩
          have DR := Lib.hid (HQ.out.2.2.below ((Below.refl _ wr).drew) (Nat.le_refl _))
          go_wp2_with fail
          refine chain (S := (fun Q => Q.cell? ⟨w_1.heap.size, 0, none⟩ = some (.int .i64 N) ∧ Q.cell? ⟨w_1.heap.size, 1, none⟩ = some (.string s) ∧ Q.cell? ⟨w_1.heap.size, 2, none⟩ = some (.string r))) [([true, true, false, true, true, false, true], 2), ([], 5), ([], 7), ([false, false, false, false, false, false, false, false, true, true, true, true, false, true, true, true], 12), ([], 16), ([false, false, false, false, false, false, false, false, false, false, false, false, false, false, false, false, false, true, true, true, true, true, true, false, true, true, true], 23), ([false, false, false, false, false, false, false, false, false, false, false, false, false, false, false, false, false, false, false, false, false, false, false, false, false, false, false, true, true, true, true], 31), ([false, false, false, false, false, false, false, false, false, false, false, false, false, false, false, false, false, false, false, false, false, false, false, false, false, false, false, false, false, false, false, false, true, true, true, true], 36)] [false, false, false, false, false, false, false, false, false, false, false, false, false, false, false, false, false, false, false, false, false, false, false, false, false, false, false, false, false, false, false, false, false, false, false, false, false, true, true, true, true] (by kernel_rfl) (by kernel_rfl) (by kernel_rfl) ⟨a0, a1, a2⟩ ?_
          simp only [wpSegs, pickB, List.dropLast_cons_cons, List.dropLast_singleton, List.getLast?_cons_cons, List.getLast?_singleton, List.toList_toArray, List.getElem?_toArray, List.getElem?_cons_succ, List.getElem?_cons_zero, Option.toList_some]
          repeat (go_big_quiet_step (fail))
          refine wpQuiet_nil ?_
          intro K hK
          go_wp2_with fail
          refine (gsHas_any _ (nearTo N r X N) Y _ (OwnI.reads DR.out) (by have := nearTo_len N r X N; omega)).mono ?_
          rintro er WX ⟨rfl, rfl⟩
          rw [HM1.out]
          go_wp2_with fail
          refine hK _ _ ⟨a0, a1, a2⟩ ?_
          clear hK K
          repeat (go_big_quiet_step (fail))
          refine wpQuiet_nil ?_
          intro K hK
          go_wp2_with fail
          refine (CO.out.n Y hY _).mono ?_
          rintro er w6 ⟨vb, rfl, ho, hb⟩
          have hb9 := ofDrew hb
          have HN6 := Lib.hid (show _ ∧ _ ∧ _ from ⟨HQ.out.1.trans (hb9.mono HQ.out.1.size), HQ.out.2.1.below hb9 HQ.out.2.1.lt, HQ.out.2.2.below hb9 (Nat.le_refl _)⟩)
          have OB := Lib.hid ho
          clear ho
          clear hb hb9
          go_wp2_with fail
          refine hK _ _ HN6.out.2.1.c ?_
          clear hK K
          repeat (go_big_quiet_step (fail))
          refine wpQuiet_nil ?_
          intro K hK
          go_wp2_with fail
          refine (gsHas_any _ (nearTo N r Y N) X _ (OwnI.reads OB.out) (by have := nearTo_len N r Y N; omega)).mono ?_
          rintro er WX ⟨rfl, rfl⟩
          rw [HM2.out]
          go_wp2_with fail
          refine hK _ _ HN6.out.2.1.c ?_
          clear hK K
          repeat (go_big_quiet_step (fail))
          refine wpQuiet_nil ?_
          intro K hK
          go_wp2_with fail
          refine (gsHas_any _ (nearTo N r X N) Y _ (OwnI.reads HN6.out.2.2) (by have := nearTo_len N r X N; omega)).mono ?_
          rintro er WX ⟨rfl, rfl⟩
          rw [HM1.out]
          go_wp2_with fail
          refine hK _ _ HN6.out.2.1.c ?_
          clear hK K
          repeat (go_big_quiet_step (fail))
          refine wpQuiet_nil ?_
          intro K hK
          go_wp2_with fail
          refine (CO.out.d X Y _ hX hY hd.out _).mono ?_
          rintro er w7 ⟨rfl, hb⟩
          have hb9 := hb
          have HN7 := Lib.hid (show _ ∧ _ ∧ _ from ⟨HN6.out.1.trans (hb9.mono HN6.out.1.size), HN6.out.2.1.below hb9 HN6.out.2.1.lt, HN6.out.2.2.below hb9 (Nat.le_refl _)⟩)
          clear hb hb9
          go_wp2_with fail
          refine hK _ _ HN7.out.2.1.c ?_
          clear hK K
          repeat (go_big_quiet_step (fail))
          refine wpQuiet_nil ?_
          intro K hK
          go_wp2_with fail
          refine (gsHas_any _ (nearTo N r X N) Y _ (OwnI.reads HN7.out.2.2) (by have := nearTo_len N r X N; omega)).mono ?_
          rintro er WX ⟨rfl, rfl⟩
          rw [HM1.out]
          go_wp2_with fail
          refine hK _ _ HN7.out.2.1.c ?_
          clear hK K
          repeat (go_big_quiet_step (fail))
          refine wpQuiet_nil ?_
          intro K hK
          go_wp2_with fail
          refine (CO.out.i X Y _ hX hY hxy.out _).mono ?_
          rintro er w8 ⟨rfl, hb⟩
          have hb9 := hb
          have HN8 := Lib.hid (show _ ∧ _ ∧ _ from ⟨HN7.out.1.trans (hb9.mono HN7.out.1.size), HN7.out.2.1.below hb9 HN7.out.2.1.lt, HN7.out.2.2.below hb9 (Nat.le_refl _)⟩)
          clear hb hb9
          go_wp2_with fail
          refine hK _ _ HN8.out.2.1.c ?_
          clear hK K
          repeat (go_big_quiet_step (fail))
          refine wpQuiet_nil ?_
          intro K hK
          go_wp2_with fail
          refine (CO.out.i Y X _ hY hX hyx.out _).mono ?_
          rintro er w9 ⟨rfl, hb⟩
          have hb9 := hb
          have HN9 := Lib.hid (show _ ∧ _ ∧ _ from ⟨HN8.out.1.trans (hb9.mono HN8.out.1.size), HN8.out.2.1.below hb9 HN8.out.2.1.lt, HN8.out.2.2.below hb9 (Nat.le_refl _)⟩)
          clear hb hb9
          go_wp2_with fail
          refine hK _ _ HN9.out.2.1.c ?_
          clear hK K
          repeat (go_big_quiet_step (fail))
          refine wpQuiet_nil ?_
          clear q0 q1 q2 hne
          go_wp2
          go_roundw
          case rel => first | exact ⟨Y + 1, by omega, by go_num, HN9.out⟩ | ((repeat apply Exists.intro); exact ⟨⟨Y + 1, by omega, by go_num, HN9.out⟩, rfl⟩)
          case measure => simp [intOf]; omega
    · obtain rfl : N = Y := by omega
      go_wp2_with fail
      refine (implTurn_any N s r _ HVT.out).mono ?_
      rintro er w6 ⟨rfl, hb⟩
      have HN6 := Lib.hid (show _ ∧ _ ∧ _ from ⟨HQ.out.1.trans (hb.mono HQ.out.1.size), HQ.out.2.1.below hb HQ.out.2.1.lt, HQ.out.2.2.below hb (Nat.le_refl _)⟩)
      clear hb a0 a1 a2
      obtain ⟨R2, hR2⟩ : ∃ q, q = turnR N r := ⟨_, rfl⟩
      rw [← hR2]
      have hv2 : validB N s R2 = true := by
        have h := validB_iff.1 HVT.out
        rw [hR2]
        exact validB_iff.2 ⟨h.1, h.2.1, by unfold turnR; rw [make.bR_size]; simp, h.2.2.2.1, val.bits_bR _ _ _⟩
      have hz2 : s.size ≤ 100 ∧ R2.size ≤ 100 := by
        obtain ⟨_, a, b, _, _⟩ := validB_iff.1 hv2
        rw [← Int.natCast_mul] at b
        have : N * N ≤ 8 * 8 := Nat.mul_le_mul hN8 hN8
        omega
      have CO2 := Lib.hid (con hv2 hz2.1 hz2.2)
      have HTN : Hid (nearTo N R2 X N = nearTo N r X N) := by rw [hR2]; exact turn_near hX
      clear hR2 hv2 hz2
      go_wp2_with fail
      refine (CO2.out.n X hX _).mono ?_
      rintro er w7 ⟨vb, rfl, ho, hb⟩
      have A6 : Hid (Below w6.heap.size w6 w7) := ((Below.refl _ _).alloc (Nat.le_refl _) _).trans (hb.mono (by simp))
      have OB := Lib.hid ho
      clear ho hb
      go_wp2_with fail
      refine (gsSame_same _ _ (nearTo N r X N) _ (by rw [← HTN.out]; exact OwnI.reads OB.out) (OwnI.reads (HN6.out.2.2.below A6.out (Nat.le_refl _))) (by have := nearTo_len N r X N; omega)).mono ?_
      rintro er w8 ⟨rfl, hb⟩
      have A7 : Hid (Below w.heap.size w w8) := (HN6.out.1.trans (A6.out.mono HN6.out.1.size)).trans (hb.mono (Nat.le_trans HN6.out.1.size A6.out.size))
      clear hb
      go_wp2
      go_ret
      exact ⟨rfl, A7.out⟩
end Go.Proofs.YtlnmebjbinmeiaaDoor.fnNearW
