/- FnCountingForever: the walk. -/
import Derived.Test.YtpcnoiigbmiejaaDoorGmC
import Derived.Test.YtpcnoiigbmiejaaDoorDrawCw
import Derived.Test.YtpcnoiigbmiejaaDoorPbF
import Derived.Test.YtpcnoiigbmiejaaDoorCwL
import Derived.Test.YtpcnoiigbmiejaaDoorRow
namespace Go.Proofs.YtpcnoiigbmiejaaDoor.fnCountingForeverW
set_option linter.unusedVariables false
set_option linter.unusedSimpArgs false
open Go.ChangeShapes Go.WideShapes Go.ChangeAt Go.RowKit
open Go.Proofs.YtpcnoiigbmiejaaDoor.flow Go.Proofs.YtpcnoiigbmiejaaDoor.lib Go.Proofs.YtpcnoiigbmiejaaDoor.st Go.Proofs.YtpcnoiigbmiejaaDoor.draw Go.Proofs.YtpcnoiigbmiejaaDoor.base Go.Proofs.YtpcnoiigbmiejaaDoor.chain Go.Proofs.YtpcnoiigbmiejaaDoor.peb Go.Proofs.YtpcnoiigbmiejaaDoor.pbi Go.Proofs.YtpcnoiigbmiejaaDoor.l7s
/-- bytes that came in may be drawn from -/
theorem byt_of_row {w : World} {a : Option Addr} {n c : Nat} {zs : List Int} (h : row.IsRow .u8 w a n c zs) : Byt w w.heap.size a n ∧ n ≤ c ∧ c ≤ 9223372036854775807 := by
  rcases h with ⟨rfl, rfl, rfl, rfl⟩ | ⟨x, rfl, hl, hm, hz, hcell, hwf⟩
  · exact ⟨.inl rfl, Nat.le_refl _, by omega⟩
  · refine ⟨?_, hl, hm⟩
    by_cases h0 : n = 0
    · exact .inl h0
    · obtain ⟨b, off, spot⟩ := x
      have hc := hcell 0 (by omega)
      have hspot : spot = none := by simpa [Addr.add] using World.cell?_spot hc
      subst hspot
      have hlt := World.block_lt_of_cell? w _ hc
      refine .inr ⟨b, off, rfl, by simpa [Addr.add] using hlt, fun i hi => ?_⟩
      have hci := hcell i (by omega)
      have hw := hwf (zs.getD i 0) (by rw [List.getD_eq_getElem?_getD, List.getElem?_eq_getElem (by omega)]; exact List.getElem_mem _)
      have hb : 0 ≤ zs.getD i 0 ∧ zs.getD i 0 ≤ 255 := by
        generalize zs.getD i 0 = z at hw ⊢
        simp only [Lit.wf, IntKind.min, IntKind.max, IntKind.signed, IntKind.bits, Bool.and_eq_true, decide_eq_true_eq] at hw
        simp at hw
        omega
      refine ⟨(zs.getD i 0).toNat, by omega, ?_⟩
      rw [show (⟨b, off, none⟩ : Addr).add i = ⟨b, off + i, none⟩ from by simp only [Addr.add]; split <;> simp [*]] at hci
      rw [hci, show (((zs.getD i 0).toNat : Nat) : Int) = zs.getD i 0 from by omega]

/-- what a counting game answers (mt: counting) -/
def CWP (mt : Bool) (n : Int) (s r : ByteArray) (la : List Int) (m : Int) (t q : ByteArray) (lb : List Int) (T : Int) : Prop :=
  readyB n s r la m t q lb = true ∧ (0 ≤ T ∧ T ≤ 4) ∧ gameW mt (gob.gr n.toNat s r) (gob.gr m.toNat t q) T.toNat (plc la) (plc lb)
def CEP (mt : Bool) (n : Int) (s r : ByteArray) (la : List Int) (m : Int) (t q : ByteArray) (lb : List Int) : Prop :=
  readyB n s r la m t q lb = true ∧ ∀ k, gameW mt (gob.gr n.toNat s r) (gob.gr m.toNat t q) k (plc la) (plc lb)
def FTP (n : Int) (s r : ByteArray) (la : List Int) (m : Int) (t q : ByteArray) (lb : List Int) : Prop :=
  readyB n s r la m t q lb = true ∧ Fit (gob.gr n.toNat s r) (gob.gr m.toNat t q) (plc la) (plc lb)
section
variable {n m T : Int} {s r t q : ByteArray} {la lb : List Int}
theorem CWP.less (h : CWP true n s r la m t q lb T) (h0 : T ≠ 0) : CWP true n s r la m t q lb (T - 1) := by
  refine ⟨h.1, by have := h.2.1; omega, ?_⟩
  exact Cw.le (show Cw _ _ T.toNat _ _ from h.2.2) (by omega)
theorem CWP.pw (h : CWP true n s r la m t q lb T) : CWP false n s r la m t q lb T := ⟨h.1, h.2.1, Cw.pw (show Cw _ _ T.toNat _ _ from h.2.2)⟩
theorem CWP.symm (h : CWP true n s r la m t q lb T) : CWP true m t q lb n s r la T := ⟨by rw [readyB_symm]; exact h.1, h.2.1, Cw.symm (show Cw _ _ T.toNat _ _ from h.2.2)⟩
theorem CWP.self (h : CWP true n s r la m t q lb T) : CWP true n s r la n s r la T :=
  ⟨readyB_self h.1, h.2.1, (Cw.refl (Fit.ok (Cw.fit (show Cw _ _ T.toNat _ _ from h.2.2))) : Cw _ _ T.toNat _ _)⟩
theorem CWP.size (h : CWP true n s r la m t q lb T) (h0 : T ≠ 0) : n = m := by
  have g : Cw (gob.gr n.toNat s r) (gob.gr m.toNat t q) T.toNat (plc la) (plc lb) := h.2.2
  have hp := ready_pos h.1
  obtain ⟨k, hk⟩ : ∃ k, T.toNat = k + 1 := ⟨T.toNat - 1, by have := h.2.1; omega⟩
  rw [hk] at g
  have e : n.toNat = m.toNat := Cw.size g (by rw [plc_len]; exact hp)
  have := ready_nat h.1
  omega
theorem CEP.wins (h : CEP true n s r la m t q lb) (hT : 0 ≤ T ∧ T ≤ 4) : CWP true n s r la m t q lb T := ⟨h.1, hT, h.2 _⟩
theorem CEP.fit (h : CEP true n s r la m t q lb) : FTP n s r la m t q lb := ⟨h.1, gameW_fit (h.2 0)⟩
theorem CEP.pw (h : CEP true n s r la m t q lb) : CEP false n s r la m t q lb := ⟨h.1, fun k => Cw.pw (show Cw _ _ k _ _ from h.2 k)⟩
theorem CEP.symm (h : CEP true n s r la m t q lb) : CEP true m t q lb n s r la := ⟨by rw [readyB_symm]; exact h.1, fun k => Cw.symm (show Cw _ _ k _ _ from h.2 k)⟩
theorem CEP.turn : CEP true m t q lb n s r la ↔ CEP true n s r la m t q lb := ⟨CEP.symm, CEP.symm⟩
end
/-- a call whose answer is known -/
theorem known {P : Program} {f : FuncId} {args : Array Value} {w : World} {Q : Prop} {R : World → Prop} (h : Calls P f args w fun e w' => ∃ b : Bool, e = .returned (.bool b) ∧ (b = true ↔ Q) ∧ R w') (b0 : Bool) (hq : b0 = true ↔ Q) :
    Calls P f args w fun e w' => e = .returned (.bool b0) ∧ R w' :=
  h.mono fun e w' ⟨b, he, hb, hr⟩ => ⟨by rw [he, Bool.eq_iff_iff.2 (hb.trans hq.symm)], hr⟩
theorem yes {Q : Prop} (h : Q) : true = true ↔ Q := iff_of_true rfl h

set_option maxHeartbeats 40000000 in
set_option maxRecDepth 100000 in
theorem walk (a0 : Option Addr) (n0 c0 : Nat) (l0 : List Int) (w : World) (h0 : row.IsRow .u8 w a0 n0 c0 l0) :
    Calls Tryd.prog 7 #[.slice a0 n0 c0] w fun e w' => e = .returned (.bool true) ∧ Below w.heap.size w w' := by
  obtain ⟨by0, nc0, cm0⟩ := byt_of_row h0
  have BY0 := Lib.hid by0
  clear by0
  clear h0
  by_cases hg0 : 1048576 < n0
  · go_enter Tryd.func7, Tryd.ntmps7
    go_wp2
    go_ret
    exact ⟨rfl, Below.refl _ _⟩
  go_enter Tryd.func7, Tryd.ntmps7
  have AW_0 : Hid (Below w.heap.size w w) := Below.refl _ _
  go_wp2_with fail
  refine (drawCE_any a0 n0 c0 _ BY0.out nc0 cm0).mono ?_
  rintro e w_1 ⟨n, s, r, va, la, m, t, q, vb, lb, rfl, ⟨hnw, hs, hr⟩, ⟨hmw, ht, hq⟩, ⟨hla, hna⟩, ⟨hlb, hnb⟩, hoa, hob, hb⟩
  have hbn := hb
  have AW_1 : Hid (Below w.heap.size w w_1) := AW_0.out.trans (hbn.mono AW_0.out.size)
  clear hbn AW_0 
  have FL_1 := Lib.hid (hoa)
  have FM_1 := Lib.hid (hob)
  have FA_1 : Hid (Box 24 (w_1.alloc (.cells #[.int .i64 n, .string s, .string r] 24)) (w_1.heap.size) n s r) := Box.new _ w_1 (w_1.heap.size) (by simp) _ _ _
  have FA_1 := Lib.hid (FA_1.out.below ((Below.refl (w_1.heap.size + 1) _).alloc (by simp) (.cells #[.int .i64 m, .string t, .string q] 24)) (by omega))
  have FB_1 : Hid (Box 24 ((w_1.alloc (.cells #[.int .i64 n, .string s, .string r] 24)).alloc (.cells #[.int .i64 m, .string t, .string q] 24)) (w_1.heap.size + 1) m t q) := Box.new _ (w_1.alloc (.cells #[.int .i64 n, .string s, .string r] 24)) (w_1.heap.size + 1) (by simp) _ _ _
  clear hb hnw hmw hna hnb hoa hob
  obtain ⟨a0, a1, a2⟩ := Box.c FA_1.out
  obtain ⟨b0, b1, b2⟩ := Box.c FB_1.out
  go_wp2_with fail
  clear  a0 a1 a2 b0 b1 b2
  refine (cEver_any n s r _ la m t q _ lb _ (OwnI.reads (FL_1.out.below (((Below.refl w_1.heap.size w_1).alloc (by simp) (.cells #[.int .i64 n, .string s, .string r] 24)).alloc (by simp) (.cells #[.int .i64 m, .string t, .string q] 24)) (Nat.le_refl _))) (OwnI.reads (FM_1.out.below (((Below.refl w_1.heap.size w_1).alloc (by simp) (.cells #[.int .i64 n, .string s, .string r] 24)).alloc (by simp) (.cells #[.int .i64 m, .string t, .string q] 24)) (Nat.le_refl _))) (by omega) (by omega) (by omega) (by omega) (by omega) (by omega)).mono ?_
  rintro e w_2 ⟨b1, rfl, hq, hb⟩
  have hbn : Below w_1.heap.size w_1 w_2 := (((Below.refl w_1.heap.size w_1).alloc (by simp) (.cells #[.int .i64 n, .string s, .string r] 24)).alloc (by simp) (.cells #[.int .i64 m, .string t, .string q] 24)).trans (hb.mono (show w_1.heap.size ≤ _ by simp <;> omega))
  have FL_2 := Lib.hid (FL_1.out.below hbn (Nat.le_refl _))
  have FM_2 := Lib.hid (FM_1.out.below hbn (Nat.le_refl _))
  have FA_2 := Lib.hid (FA_1.out.below hb (by simp <;> omega))
  have FB_2 := Lib.hid (FB_1.out.below hb (by simp <;> omega))
  have AW_2 : Hid (Below w.heap.size w w_2) := AW_1.out.trans (hbn.mono AW_1.out.size)
  clear hbn AW_1 FL_1 FM_1 FA_1 FB_1
  have HB1 := Lib.hid hq
  clear hq
  clear hb
  have HB : Hid (b1 = true ↔ CEP true n s r la m t q lb) := HB1.out
  clear HB1
  obtain ⟨a0, a1, a2⟩ := Box.c FA_2.out
  obtain ⟨b0, b1, b2⟩ := Box.c FB_2.out
  go_wp2_with fail
  clear  a0 a1 a2 b0 b1 b2
  refine (known (specCE_any n s r _ la m t q _ lb _ (OwnI.reads FL_2.out) (OwnI.reads FM_2.out) (by omega) (by omega) (by omega) (by omega) (by omega) (by omega)) b1 (HB.out)).mono ?_
  rintro e w_3 ⟨rfl, hb⟩
  have hbn := hb
  have FL_3 := Lib.hid (FL_2.out.below hbn (Nat.le_refl _))
  have FM_3 := Lib.hid (FM_2.out.below hbn (Nat.le_refl _))
  have FA_3 := Lib.hid (FA_2.out.below hbn FA_2.out.lt)
  have FB_3 := Lib.hid (FB_2.out.below hbn FB_2.out.lt)
  have AW_3 : Hid (Below w.heap.size w w_3) := AW_2.out.trans (hbn.mono AW_2.out.size)
  clear hbn AW_2 FL_2 FM_2 FA_2 FB_2
  clear hb
  have tE : (b1 == b1) = true := by simp
  have tN : (b1 != b1) = false := by simp
  obtain ⟨a0, a1, a2⟩ := Box.c FA_3.out
  obtain ⟨b0, b1, b2⟩ := Box.c FB_3.out
  go_wp2_with fail
  clear  a0 a1 a2 b0 b1 b2
  refine (pFit_any n s r _ la m t q _ lb _ (OwnI.reads FL_3.out) (OwnI.reads FM_3.out) (by omega) (by omega) (by omega) (by omega) (by omega) (by omega)).mono ?_
  rintro e w_4 ⟨b2, rfl, hq, hb⟩
  have hbn := hb
  have FL_4 := Lib.hid (FL_3.out.below hbn (Nat.le_refl _))
  have FM_4 := Lib.hid (FM_3.out.below hbn (Nat.le_refl _))
  have FA_4 := Lib.hid (FA_3.out.below hbn FA_3.out.lt)
  have FB_4 := Lib.hid (FB_3.out.below hbn FB_3.out.lt)
  have AW_4 : Hid (Below w.heap.size w w_4) := AW_3.out.trans (hbn.mono AW_3.out.size)
  clear hbn AW_3 FL_3 FM_3 FA_3 FB_3
  have HF1 := Lib.hid hq
  clear hq
  clear hb
  have HF : Hid (b2 = true ↔ FTP n s r la m t q lb) := HF1.out
  clear HF1
  obtain ⟨B2, hB2⟩ : ∃ B2, B2 = b2 := ⟨_, rfl⟩
  cases b2 with
  | false =>
    have hb1 : b1 = false := by
      cases b1 with
      | false => rfl
      | true => exact absurd (HF.out.2 (HB.out.1 rfl).fit) (by decide)
    subst hb1
    clear tE tN
    obtain ⟨a0, a1, a2⟩ := Box.c FA_4.out
    obtain ⟨b0, b1, b2⟩ := Box.c FB_4.out
    go_wp2_with fail
    clear  a0 a1 a2 b0 b1 b2
    refine (known (specCE_any n s r _ la m t q _ lb _ (OwnI.reads FL_4.out) (OwnI.reads FM_4.out) (by omega) (by omega) (by omega) (by omega) (by omega) (by omega)) false (HB.out)).mono ?_
    rintro e w_5 ⟨rfl, hb⟩
    have hbn := hb
    have FL_5 := Lib.hid (FL_4.out.below hbn (Nat.le_refl _))
    have FM_5 := Lib.hid (FM_4.out.below hbn (Nat.le_refl _))
    have FA_5 := Lib.hid (FA_4.out.below hbn FA_4.out.lt)
    have FB_5 := Lib.hid (FB_4.out.below hbn FB_4.out.lt)
    have AW_5 : Hid (Below w.heap.size w w_5) := AW_4.out.trans (hbn.mono AW_4.out.size)
    clear hbn AW_4 FL_4 FM_4 FA_4 FB_4
    clear hb
    obtain ⟨a0, a1, a2⟩ := Box.c FA_5.out
    obtain ⟨b0, b1, b2⟩ := Box.c FB_5.out
    go_wp2_with fail
    clear  a0 a1 a2 b0 b1 b2
    refine (known (pFit_any n s r _ la m t q _ lb _ (OwnI.reads FL_5.out) (OwnI.reads FM_5.out) (by omega) (by omega) (by omega) (by omega) (by omega) (by omega)) false (HF.out)).mono ?_
    rintro e w_6 ⟨rfl, hb⟩
    have hbn := hb
    have FL_6 := Lib.hid (FL_5.out.below hbn (Nat.le_refl _))
    have FM_6 := Lib.hid (FM_5.out.below hbn (Nat.le_refl _))
    have FA_6 := Lib.hid (FA_5.out.below hbn FA_5.out.lt)
    have FB_6 := Lib.hid (FB_5.out.below hbn FB_5.out.lt)
    have AW_6 : Hid (Below w.heap.size w w_6) := AW_5.out.trans (hbn.mono AW_5.out.size)
    clear hbn AW_5 FL_5 FM_5 FA_5 FB_5
    clear hb
    go_wp2
    go_ret
    exact ⟨rfl, AW_6.out⟩
  | true =>
    clear hB2 B2 HF
    have HS0 : Hid (Below w.heap.size w w_4 ∧ Box 24 w_4 w_1.heap.size n s r ∧ Box 24 w_4 (w_1.heap.size + 1) m t q ∧ OwnI 3 w_4 w.heap.size va la ∧ OwnI 3 w_4 w.heap.size vb lb) := ⟨AW_4.out, FA_4.out, FB_4.out, FL_4.out, FM_4.out⟩
    clear AW_4 FA_4 FB_4 FL_4 FM_4
    cases b1 with
    | false =>
      clear tE tN
      have HB2 : Hid (false = true ↔ CEP true m t q lb n s r la) := HB.out.trans CEP.turn.symm
      clear HB
      have HB := Lib.hid HB2.out
      clear HB2
      go_wp2_with fail
      go_loopw [8] (fun i wr => ∃ k : Nat, k ≤ 5 ∧ i = .int .i64 k ∧ Below w.heap.size w wr ∧ Box 24 wr w_1.heap.size n s r ∧ Box 24 wr (w_1.heap.size + 1) m t q ∧ OwnI 3 wr w.heap.size va la ∧ OwnI 3 wr w.heap.size vb lb) (fun i _ => 5 - (intOf i).toNat)
      case atStart => exact ⟨0, Nat.zero_le _, rfl, HS0.out⟩
      case round =>
        clear HS0
        obtain ⟨k, hkL, rfl, hst⟩ := hrel
        by_cases hlt : k < 5
        · have AW_90 := Lib.hid hst.1
          have FA_90 := Lib.hid hst.2.1
          have FB_90 := Lib.hid hst.2.2.1
          have FL_90 := Lib.hid hst.2.2.2.1
          have FM_90 := Lib.hid hst.2.2.2.2
          clear hst
          have tk : decide ((k : Int) ≤ 4) = true := by simp; omega
          have tk2 : (k : Int) ≤ 4 := by omega
          have tk3 : decide (4 < (k : Int)) = false := by simp; omega
          have tk4 : decide (4 < k) = false := by simp; omega
          have RH : Hid (Below w.heap.size w wr ∧ Box 24 wr w_1.heap.size n s r ∧ Box 24 wr (w_1.heap.size + 1) m t q ∧ OwnI 3 wr w.heap.size va la ∧ OwnI 3 wr w.heap.size vb lb) := ⟨AW_90.out, FA_90.out, FB_90.out, FL_90.out, FM_90.out⟩
          clear AW_90 FA_90 FB_90 FL_90 FM_90
          go_wp2
          go_roundw
          case rel => first | exact ⟨k + 1, by omega, by go_num, RH.out⟩ | ((repeat apply Exists.intro); exact ⟨⟨k + 1, by omega, by go_num, RH.out⟩, rfl⟩)
          case measure => simp [intOf]; omega
        · have AW_90 := Lib.hid hst.1
          have FA_90 := Lib.hid hst.2.1
          have FB_90 := Lib.hid hst.2.2.1
          have FL_90 := Lib.hid hst.2.2.2.1
          have FM_90 := Lib.hid hst.2.2.2.2
          clear hst
          obtain rfl : k = 5 := by omega
          clear hlt hkL
          obtain ⟨b0, b1, b2⟩ := Box.c FB_90.out
          obtain ⟨a0, a1, a2⟩ := Box.c FA_90.out
          go_wp2_with fail
          clear  b0 b1 b2 a0 a1 a2
          refine (known (cEver_any m t q _ lb n s r _ la _ (OwnI.reads FM_90.out) (OwnI.reads FL_90.out) (by omega) (by omega) (by omega) (by omega) (by omega) (by omega)) false (HB.out)).mono ?_
          rintro e w_91 ⟨rfl, hb⟩
          have hbn := hb
          have FA_91 := Lib.hid (FA_90.out.below hbn FA_90.out.lt)
          have FB_91 := Lib.hid (FB_90.out.below hbn FB_90.out.lt)
          have FL_91 := Lib.hid (FL_90.out.below hbn (Nat.le_refl _))
          have FM_91 := Lib.hid (FM_90.out.below hbn (Nat.le_refl _))
          have AW_91 : Hid (Below w.heap.size w w_91) := AW_90.out.trans (hbn.mono AW_90.out.size)
          clear hbn AW_90 FA_90 FB_90 FL_90 FM_90
          clear hb
          go_wp2
          go_ret
          exact ⟨rfl, AW_91.out⟩
    | true =>
      clear tE tN
      have HB2 : Hid (CEP true n s r la m t q lb) := HB.out.1 rfl
      clear HB
      have HB := Lib.hid HB2.out
      clear HB2
      go_wp2_with fail
      go_loopw [8] (fun i wr => ∃ k : Nat, k ≤ 5 ∧ i = .int .i64 k ∧ Below w.heap.size w wr ∧ Box 24 wr w_1.heap.size n s r ∧ Box 24 wr (w_1.heap.size + 1) m t q ∧ OwnI 3 wr w.heap.size va la ∧ OwnI 3 wr w.heap.size vb lb) (fun i _ => 5 - (intOf i).toNat)
      case atStart => exact ⟨0, Nat.zero_le _, rfl, HS0.out⟩
      case round =>
        clear HS0
        obtain ⟨k, hkL, rfl, hst⟩ := hrel
        by_cases hlt : k < 5
        · have AW_90 := Lib.hid hst.1
          have FA_90 := Lib.hid hst.2.1
          have FB_90 := Lib.hid hst.2.2.1
          have FL_90 := Lib.hid hst.2.2.2.1
          have FM_90 := Lib.hid hst.2.2.2.2
          clear hst
          have tk : decide ((k : Int) ≤ 4) = true := by simp; omega
          have tk2 : (k : Int) ≤ 4 := by omega
          have tk3 : decide (4 < (k : Int)) = false := by simp; omega
          have tk4 : decide (4 < k) = false := by simp; omega
          have HC : Hid (CWP true n s r la m t q lb (k : Int)) := HB.out.wins (by omega)
          obtain ⟨a0, a1, a2⟩ := Box.c FA_90.out
          obtain ⟨b0, b1, b2⟩ := Box.c FB_90.out
          go_wp2_with fail
          clear  a0 a1 a2 b0 b1 b2
          refine (known (cWins_any n s r _ la m t q _ lb (k : Int) _ (OwnI.reads FL_90.out) (OwnI.reads FM_90.out) (by omega) (by omega) (by omega) (by omega) (by omega) (by omega)) true (yes HC.out)).mono ?_
          rintro e w_91 ⟨rfl, hb⟩
          have hbn := hb
          have FA_91 := Lib.hid (FA_90.out.below hbn FA_90.out.lt)
          have FB_91 := Lib.hid (FB_90.out.below hbn FB_90.out.lt)
          have FL_91 := Lib.hid (FL_90.out.below hbn (Nat.le_refl _))
          have FM_91 := Lib.hid (FM_90.out.below hbn (Nat.le_refl _))
          have AW_91 : Hid (Below w.heap.size w w_91) := AW_90.out.trans (hbn.mono AW_90.out.size)
          clear hbn AW_90 FA_90 FB_90 FL_90 FM_90
          clear hb
          have RH : Hid (Below w.heap.size w w_91 ∧ Box 24 w_91 w_1.heap.size n s r ∧ Box 24 w_91 (w_1.heap.size + 1) m t q ∧ OwnI 3 w_91 w.heap.size va la ∧ OwnI 3 w_91 w.heap.size vb lb) := ⟨AW_91.out, FA_91.out, FB_91.out, FL_91.out, FM_91.out⟩
          clear AW_91 FA_91 FB_91 FL_91 FM_91
          go_wp2
          go_roundw
          case rel => first | exact ⟨k + 1, by omega, by go_num, RH.out⟩ | ((repeat apply Exists.intro); exact ⟨⟨k + 1, by omega, by go_num, RH.out⟩, rfl⟩)
          case measure => simp [intOf]; omega
        · have AW_90 := Lib.hid hst.1
          have FA_90 := Lib.hid hst.2.1
          have FB_90 := Lib.hid hst.2.2.1
          have FL_90 := Lib.hid hst.2.2.2.1
          have FM_90 := Lib.hid hst.2.2.2.2
          clear hst
          obtain rfl : k = 5 := by omega
          clear hlt hkL
          obtain ⟨a0, a1, a2⟩ := Box.c FA_90.out
          obtain ⟨b0, b1, b2⟩ := Box.c FB_90.out
          go_wp2_with fail
          clear  a0 a1 a2 b0 b1 b2
          refine (known (pEver_any n s r _ la m t q _ lb _ (OwnI.reads FL_90.out) (OwnI.reads FM_90.out) (by omega) (by omega) (by omega) (by omega) (by omega) (by omega)) true (yes HB.out.pw)).mono ?_
          rintro e w_91 ⟨rfl, hb⟩
          have hbn := hb
          have FA_91 := Lib.hid (FA_90.out.below hbn FA_90.out.lt)
          have FB_91 := Lib.hid (FB_90.out.below hbn FB_90.out.lt)
          have FL_91 := Lib.hid (FL_90.out.below hbn (Nat.le_refl _))
          have FM_91 := Lib.hid (FM_90.out.below hbn (Nat.le_refl _))
          have AW_91 : Hid (Below w.heap.size w w_91) := AW_90.out.trans (hbn.mono AW_90.out.size)
          clear hbn AW_90 FA_90 FB_90 FL_90 FM_90
          clear hb
          obtain ⟨b0, b1, b2⟩ := Box.c FB_91.out
          obtain ⟨a0, a1, a2⟩ := Box.c FA_91.out
          go_wp2_with fail
          clear  b0 b1 b2 a0 a1 a2
          refine (known (cEver_any m t q _ lb n s r _ la _ (OwnI.reads FM_91.out) (OwnI.reads FL_91.out) (by omega) (by omega) (by omega) (by omega) (by omega) (by omega)) true (yes HB.out.symm)).mono ?_
          rintro e w_92 ⟨rfl, hb⟩
          have hbn := hb
          have FA_92 := Lib.hid (FA_91.out.below hbn FA_91.out.lt)
          have FB_92 := Lib.hid (FB_91.out.below hbn FB_91.out.lt)
          have FL_92 := Lib.hid (FL_91.out.below hbn (Nat.le_refl _))
          have FM_92 := Lib.hid (FM_91.out.below hbn (Nat.le_refl _))
          have AW_92 : Hid (Below w.heap.size w w_92) := AW_91.out.trans (hbn.mono AW_91.out.size)
          clear hbn AW_91 FA_91 FB_91 FL_91 FM_91
          clear hb
          go_wp2
          go_ret
          exact ⟨rfl, AW_92.out⟩
end Go.Proofs.YtpcnoiigbmiejaaDoor.fnCountingForeverW
