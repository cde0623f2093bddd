/- FnCountingWins: the walk. -/
import Derived.Test.YtpcnoiigbmiejaaDoorGmC
import Derived.Test.YtpcnoiigbmiejaaDoorDrawCw
import Derived.Test.YtpcnoiigbmiejaaDoorPbF
import Derived.Test.YtpcnoiigbmiejaaDoorCwL
import Derived.Test.YtpcnoiigbmiejaaDoorRow
namespace Go.Proofs.YtpcnoiigbmiejaaDoor.fnCountingWinsW
set_option linter.unusedVariables false
set_option linter.unusedSimpArgs false
open Go.ChangeShapes Go.WideShapes Go.ChangeAt Go.RowKit
open Go.Proofs.YtpcnoiigbmiejaaDoor.flow Go.Proofs.YtpcnoiigbmiejaaDoor.lib Go.Proofs.YtpcnoiigbmiejaaDoor.st Go.Proofs.YtpcnoiigbmiejaaDoor.draw Go.Proofs.YtpcnoiigbmiejaaDoor.base Go.Proofs.YtpcnoiigbmiejaaDoor.chain Go.Proofs.YtpcnoiigbmiejaaDoor.peb Go.Proofs.YtpcnoiigbmiejaaDoor.pbi Go.Proofs.YtpcnoiigbmiejaaDoor.l7s
/-- bytes that came in may be drawn from -/
theorem byt_of_row {w : World} {a : Option Addr} {n c : Nat} {zs : List Int} (h : row.IsRow .u8 w a n c zs) : Byt w w.heap.size a n ∧ n ≤ c ∧ c ≤ 9223372036854775807 := by
  rcases h with ⟨rfl, rfl, rfl, rfl⟩ | ⟨x, rfl, hl, hm, hz, hcell, hwf⟩
  · exact ⟨.inl rfl, Nat.le_refl _, by omega⟩
  · refine ⟨?_, hl, hm⟩
    by_cases h0 : n = 0
    · exact .inl h0
    · obtain ⟨b, off, spot⟩ := x
      have hc := hcell 0 (by omega)
      have hspot : spot = none := by simpa [Addr.add] using World.cell?_spot hc
      subst hspot
      have hlt := World.block_lt_of_cell? w _ hc
      refine .inr ⟨b, off, rfl, by simpa [Addr.add] using hlt, fun i hi => ?_⟩
      have hci := hcell i (by omega)
      have hw := hwf (zs.getD i 0) (by rw [List.getD_eq_getElem?_getD, List.getElem?_eq_getElem (by omega)]; exact List.getElem_mem _)
      have hb : 0 ≤ zs.getD i 0 ∧ zs.getD i 0 ≤ 255 := by
        generalize zs.getD i 0 = z at hw ⊢
        simp only [Lit.wf, IntKind.min, IntKind.max, IntKind.signed, IntKind.bits, Bool.and_eq_true, decide_eq_true_eq] at hw
        simp at hw
        omega
      refine ⟨(zs.getD i 0).toNat, by omega, ?_⟩
      rw [show (⟨b, off, none⟩ : Addr).add i = ⟨b, off + i, none⟩ from by simp only [Addr.add]; split <;> simp [*]] at hci
      rw [hci, show (((zs.getD i 0).toNat : Nat) : Int) = zs.getD i 0 from by omega]

/-- what a counting game answers (mt: counting) -/
def CWP (mt : Bool) (n : Int) (s r : ByteArray) (la : List Int) (m : Int) (t q : ByteArray) (lb : List Int) (T : Int) : Prop :=
  readyB n s r la m t q lb = true ∧ (0 ≤ T ∧ T ≤ 4) ∧ gameW mt (gob.gr n.toNat s r) (gob.gr m.toNat t q) T.toNat (plc la) (plc lb)
def CEP (mt : Bool) (n : Int) (s r : ByteArray) (la : List Int) (m : Int) (t q : ByteArray) (lb : List Int) : Prop :=
  readyB n s r la m t q lb = true ∧ ∀ k, gameW mt (gob.gr n.toNat s r) (gob.gr m.toNat t q) k (plc la) (plc lb)
def FTP (n : Int) (s r : ByteArray) (la : List Int) (m : Int) (t q : ByteArray) (lb : List Int) : Prop :=
  readyB n s r la m t q lb = true ∧ Fit (gob.gr n.toNat s r) (gob.gr m.toNat t q) (plc la) (plc lb)
section
variable {n m T : Int} {s r t q : ByteArray} {la lb : List Int}
theorem CWP.less (h : CWP true n s r la m t q lb T) (h0 : T ≠ 0) : CWP true n s r la m t q lb (T - 1) := by
  refine ⟨h.1, by have := h.2.1; omega, ?_⟩
  exact Cw.le (show Cw _ _ T.toNat _ _ from h.2.2) (by omega)
theorem CWP.pw (h : CWP true n s r la m t q lb T) : CWP false n s r la m t q lb T := ⟨h.1, h.2.1, Cw.pw (show Cw _ _ T.toNat _ _ from h.2.2)⟩
theorem CWP.symm (h : CWP true n s r la m t q lb T) : CWP true m t q lb n s r la T := ⟨by rw [readyB_symm]; exact h.1, h.2.1, Cw.symm (show Cw _ _ T.toNat _ _ from h.2.2)⟩
theorem CWP.self (h : CWP true n s r la m t q lb T) : CWP true n s r la n s r la T :=
  ⟨readyB_self h.1, h.2.1, (Cw.refl (Fit.ok (Cw.fit (show Cw _ _ T.toNat _ _ from h.2.2))) : Cw _ _ T.toNat _ _)⟩
theorem CWP.size (h : CWP true n s r la m t q lb T) (h0 : T ≠ 0) : n = m := by
  have g : Cw (gob.gr n.toNat s r) (gob.gr m.toNat t q) T.toNat (plc la) (plc lb) := h.2.2
  have hp := ready_pos h.1
  obtain ⟨k, hk⟩ : ∃ k, T.toNat = k + 1 := ⟨T.toNat - 1, by have := h.2.1; omega⟩
  rw [hk] at g
  have e : n.toNat = m.toNat := Cw.size g (by rw [plc_len]; exact hp)
  have := ready_nat h.1
  omega
theorem CEP.wins (h : CEP true n s r la m t q lb) (hT : 0 ≤ T ∧ T ≤ 4) : CWP true n s r la m t q lb T := ⟨h.1, hT, h.2 _⟩
theorem CEP.fit (h : CEP true n s r la m t q lb) : FTP n s r la m t q lb := ⟨h.1, gameW_fit (h.2 0)⟩
theorem CEP.pw (h : CEP true n s r la m t q lb) : CEP false n s r la m t q lb := ⟨h.1, fun k => Cw.pw (show Cw _ _ k _ _ from h.2 k)⟩
theorem CEP.symm (h : CEP true n s r la m t q lb) : CEP true m t q lb n s r la := ⟨by rw [readyB_symm]; exact h.1, fun k => Cw.symm (show Cw _ _ k _ _ from h.2 k)⟩
theorem CEP.turn : CEP true m t q lb n s r la ↔ CEP true n s r la m t q lb := ⟨CEP.symm, CEP.symm⟩
end
/-- a call whose answer is known -/
theorem known {P : Program} {f : FuncId} {args : Array Value} {w : World} {Q : Prop} {R : World → Prop} (h : Calls P f args w fun e w' => ∃ b : Bool, e = .returned (.bool b) ∧ (b = true ↔ Q) ∧ R w') (b0 : Bool) (hq : b0 = true ↔ Q) :
    Calls P f args w fun e w' => e = .returned (.bool b0) ∧ R w' :=
  h.mono fun e w' ⟨b, he, hb, hr⟩ => ⟨by rw [he, Bool.eq_iff_iff.2 (hb.trans hq.symm)], hr⟩
theorem yes {Q : Prop} (h : Q) : true = true ↔ Q := iff_of_true rfl h

set_option maxHeartbeats 40000000 in
set_option maxRecDepth 100000 in
theorem walk (a0 : Option Addr) (n0 c0 : Nat) (l0 : List Int) (w : World) (h0 : row.IsRow .u8 w a0 n0 c0 l0) :
    Calls Tryd.prog 5 #[.slice a0 n0 c0] w fun e w' => e = .returned (.bool true) ∧ Below w.heap.size w w' := by
  obtain ⟨by0, nc0, cm0⟩ := byt_of_row h0
  have BY0 := Lib.hid by0
  clear by0
  clear h0
  by_cases hg0 : 1048576 < n0
  · go_enter Tryd.func5, Tryd.ntmps5
    go_wp2
    go_ret
    exact ⟨rfl, Below.refl _ _⟩
  go_enter Tryd.func5, Tryd.ntmps5
  have AW_0 : Hid (Below w.heap.size w w) := Below.refl _ _
  go_wp2_with fail
  refine (drawCW_any a0 n0 c0 _ BY0.out nc0 cm0).mono ?_
  rintro e w_1 ⟨n, s, r, va, la, m, t, q, vb, lb, T, rfl, ⟨hnw, hs, hr⟩, ⟨hmw, ht, hq⟩, hla, hlb, hT, hoa, hob, hb⟩
  have hbn := hb
  have AW_1 : Hid (Below w.heap.size w w_1) := AW_0.out.trans (hbn.mono AW_0.out.size)
  clear hbn AW_0 
  have FL_1 := Lib.hid (hoa)
  have FM_1 := Lib.hid (hob)
  have FA_1 : Hid (Box 24 (w_1.alloc (.cells #[.int .i64 n, .string s, .string r] 24)) (w_1.heap.size) n s r) := Box.new _ w_1 (w_1.heap.size) (by simp) _ _ _
  have FA_1 := Lib.hid (FA_1.out.below ((Below.refl (w_1.heap.size + 1) _).alloc (by simp) (.cells #[.int .i64 m, .string t, .string q] 24)) (by omega))
  have FB_1 : Hid (Box 24 ((w_1.alloc (.cells #[.int .i64 n, .string s, .string r] 24)).alloc (.cells #[.int .i64 m, .string t, .string q] 24)) (w_1.heap.size + 1) m t q) := Box.new _ (w_1.alloc (.cells #[.int .i64 n, .string s, .string r] 24)) (w_1.heap.size + 1) (by simp) _ _ _
  clear hb hnw hmw hoa hob
  obtain ⟨a0, a1, a2⟩ := Box.c FA_1.out
  obtain ⟨b0, b1, b2⟩ := Box.c FB_1.out
  go_wp2_with fail
  clear  a0 a1 a2 b0 b1 b2
  refine (cWins_any n s r _ la m t q _ lb T _ (OwnI.reads (FL_1.out.below (((Below.refl w_1.heap.size w_1).alloc (by simp) (.cells #[.int .i64 n, .string s, .string r] 24)).alloc (by simp) (.cells #[.int .i64 m, .string t, .string q] 24)) (Nat.le_refl _))) (OwnI.reads (FM_1.out.below (((Below.refl w_1.heap.size w_1).alloc (by simp) (.cells #[.int .i64 n, .string s, .string r] 24)).alloc (by simp) (.cells #[.int .i64 m, .string t, .string q] 24)) (Nat.le_refl _))) (by omega) (by omega) (by omega) (by omega) (by omega) (by omega)).mono ?_
  rintro e w_2 ⟨b1, rfl, hq, hb⟩
  have hbn : Below w_1.heap.size w_1 w_2 := (((Below.refl w_1.heap.size w_1).alloc (by simp) (.cells #[.int .i64 n, .string s, .string r] 24)).alloc (by simp) (.cells #[.int .i64 m, .string t, .string q] 24)).trans (hb.mono (show w_1.heap.size ≤ _ by simp <;> omega))
  have FL_2 := Lib.hid (FL_1.out.below hbn (Nat.le_refl _))
  have FM_2 := Lib.hid (FM_1.out.below hbn (Nat.le_refl _))
  have FA_2 := Lib.hid (FA_1.out.below hb (by simp <;> omega))
  have FB_2 := Lib.hid (FB_1.out.below hb (by simp <;> omega))
  have AW_2 : Hid (Below w.heap.size w w_2) := AW_1.out.trans (hbn.mono AW_1.out.size)
  clear hbn AW_1 FL_1 FM_1 FA_1 FB_1
  have HB1 := Lib.hid hq
  clear hq
  clear hb
  have HB : Hid (b1 = true ↔ CWP true n s r la m t q lb T) := HB1.out
  clear HB1
  obtain ⟨a0, a1, a2⟩ := Box.c FA_2.out
  obtain ⟨b0, b1, b2⟩ := Box.c FB_2.out
  go_wp2_with fail
  clear  a0 a1 a2 b0 b1 b2
  refine (known (specCW_any n s r _ la m t q _ lb T _ (OwnI.reads FL_2.out) (OwnI.reads FM_2.out) (by omega) (by omega) (by omega) (by omega) (by omega) (by omega)) b1 (HB.out)).mono ?_
  rintro e w_3 ⟨rfl, hb⟩
  have hbn := hb
  have FL_3 := Lib.hid (FL_2.out.below hbn (Nat.le_refl _))
  have FM_3 := Lib.hid (FM_2.out.below hbn (Nat.le_refl _))
  have FA_3 := Lib.hid (FA_2.out.below hbn FA_2.out.lt)
  have FB_3 := Lib.hid (FB_2.out.below hbn FB_2.out.lt)
  have AW_3 : Hid (Below w.heap.size w w_3) := AW_2.out.trans (hbn.mono AW_2.out.size)
  clear hbn AW_2 FL_2 FM_2 FA_2 FB_2
  clear hb
  have tE : (b1 == b1) = true := by simp
  have tN : (b1 != b1) = false := by simp
  cases b1 with
  | false =>
    clear tE tN
    obtain ⟨a0, a1, a2⟩ := Box.c FA_3.out
    obtain ⟨b0, b1, b2⟩ := Box.c FB_3.out
    go_wp2_with fail
    clear  a0 a1 a2 b0 b1 b2
    refine (known (specCW_any n s r _ la m t q _ lb T _ (OwnI.reads FL_3.out) (OwnI.reads FM_3.out) (by omega) (by omega) (by omega) (by omega) (by omega) (by omega)) false (HB.out)).mono ?_
    rintro e w_4 ⟨rfl, hb⟩
    have hbn := hb
    have FL_4 := Lib.hid (FL_3.out.below hbn (Nat.le_refl _))
    have FM_4 := Lib.hid (FM_3.out.below hbn (Nat.le_refl _))
    have FA_4 := Lib.hid (FA_3.out.below hbn FA_3.out.lt)
    have FB_4 := Lib.hid (FB_3.out.below hbn FB_3.out.lt)
    have AW_4 : Hid (Below w.heap.size w w_4) := AW_3.out.trans (hbn.mono AW_3.out.size)
    clear hbn AW_3 FL_3 FM_3 FA_3 FB_3
    clear hb
    go_wp2
    go_ret
    exact ⟨rfl, AW_4.out⟩
  | true =>
    clear tE tN
    have HP : Hid (CWP true n s r la m t q lb T) := HB.out.1 rfl
    clear HB
    by_cases hT0 : T = 0
    · subst hT0
      obtain ⟨a0, a1, a2⟩ := Box.c FA_3.out
      obtain ⟨b0, b1, b2⟩ := Box.c FB_3.out
      go_wp2_with fail
      clear  a0 a1 a2 b0 b1 b2
      refine (known (pWins_any n s r _ la m t q _ lb 0 _ (OwnI.reads FL_3.out) (OwnI.reads FM_3.out) (by omega) (by omega) (by omega) (by omega) (by omega) (by omega)) true (yes HP.out.pw)).mono ?_
      rintro e w_4 ⟨rfl, hb⟩
      have hbn := hb
      have FL_4 := Lib.hid (FL_3.out.below hbn (Nat.le_refl _))
      have FM_4 := Lib.hid (FM_3.out.below hbn (Nat.le_refl _))
      have FA_4 := Lib.hid (FA_3.out.below hbn FA_3.out.lt)
      have FB_4 := Lib.hid (FB_3.out.below hbn FB_3.out.lt)
      have AW_4 : Hid (Below w.heap.size w w_4) := AW_3.out.trans (hbn.mono AW_3.out.size)
      clear hbn AW_3 FL_3 FM_3 FA_3 FB_3
      clear hb
      obtain ⟨b0, b1, b2⟩ := Box.c FB_4.out
      obtain ⟨a0, a1, a2⟩ := Box.c FA_4.out
      go_wp2_with fail
      clear  b0 b1 b2 a0 a1 a2
      refine (known (cWins_any m t q _ lb n s r _ la 0 _ (OwnI.reads FM_4.out) (OwnI.reads FL_4.out) (by omega) (by omega) (by omega) (by omega) (by omega) (by omega)) true (yes HP.out.symm)).mono ?_
      rintro e w_5 ⟨rfl, hb⟩
      have hbn := hb
      have FL_5 := Lib.hid (FL_4.out.below hbn (Nat.le_refl _))
      have FM_5 := Lib.hid (FM_4.out.below hbn (Nat.le_refl _))
      have FA_5 := Lib.hid (FA_4.out.below hbn FA_4.out.lt)
      have FB_5 := Lib.hid (FB_4.out.below hbn FB_4.out.lt)
      have AW_5 : Hid (Below w.heap.size w w_5) := AW_4.out.trans (hbn.mono AW_4.out.size)
      clear hbn AW_4 FL_4 FM_4 FA_4 FB_4
      clear hb
      obtain ⟨a0, a1, a2⟩ := Box.c FA_5.out
      go_wp2_with fail
      clear  a0 a1 a2
      refine (known (cWins_any n s r _ la n s r _ la 0 _ (OwnI.reads FL_5.out) (OwnI.reads FL_5.out) (by omega) (by omega) (by omega) (by omega) (by omega) (by omega)) true (yes HP.out.self)).mono ?_
      rintro e w_6 ⟨rfl, hb⟩
      have hbn := hb
      have FL_6 := Lib.hid (FL_5.out.below hbn (Nat.le_refl _))
      have FM_6 := Lib.hid (FM_5.out.below hbn (Nat.le_refl _))
      have FA_6 := Lib.hid (FA_5.out.below hbn FA_5.out.lt)
      have FB_6 := Lib.hid (FB_5.out.below hbn FB_5.out.lt)
      have AW_6 : Hid (Below w.heap.size w w_6) := AW_5.out.trans (hbn.mono AW_5.out.size)
      clear hbn AW_5 FL_5 FM_5 FA_5 FB_5
      clear hb
      go_wp2
      go_ret
      exact ⟨rfl, AW_6.out⟩
    · have tT : decide (T = 0) = false := by simp; omega
      have tS : decide (n = m) = true := by simp [HP.out.size hT0]
      have HL : Hid (CWP true n s r la m t q lb (T - 1)) := HP.out.less hT0
      obtain ⟨a0, a1, a2⟩ := Box.c FA_3.out
      obtain ⟨b0, b1, b2⟩ := Box.c FB_3.out
      go_wp2_with fail
      clear  a0 a1 a2 b0 b1 b2
      refine (known (cWins_any n s r _ la m t q _ lb (T - 1) _ (OwnI.reads FL_3.out) (OwnI.reads FM_3.out) (by omega) (by omega) (by omega) (by omega) (by omega) (by omega)) true (yes HL.out)).mono ?_
      rintro e w_4 ⟨rfl, hb⟩
      have hbn := hb
      have FL_4 := Lib.hid (FL_3.out.below hbn (Nat.le_refl _))
      have FM_4 := Lib.hid (FM_3.out.below hbn (Nat.le_refl _))
      have FA_4 := Lib.hid (FA_3.out.below hbn FA_3.out.lt)
      have FB_4 := Lib.hid (FB_3.out.below hbn FB_3.out.lt)
      have AW_4 : Hid (Below w.heap.size w w_4) := AW_3.out.trans (hbn.mono AW_3.out.size)
      clear hbn AW_3 FL_3 FM_3 FA_3 FB_3
      clear hb
      obtain ⟨a0, a1, a2⟩ := Box.c FA_4.out
      obtain ⟨b0, b1, b2⟩ := Box.c FB_4.out
      go_wp2_with fail
      clear  a0 a1 a2 b0 b1 b2
      refine (known (pWins_any n s r _ la m t q _ lb T _ (OwnI.reads FL_4.out) (OwnI.reads FM_4.out) (by omega) (by omega) (by omega) (by omega) (by omega) (by omega)) true (yes HP.out.pw)).mono ?_
      rintro e w_5 ⟨rfl, hb⟩
      have hbn := hb
      have FL_5 := Lib.hid (FL_4.out.below hbn (Nat.le_refl _))
      have FM_5 := Lib.hid (FM_4.out.below hbn (Nat.le_refl _))
      have FA_5 := Lib.hid (FA_4.out.below hbn FA_4.out.lt)
      have FB_5 := Lib.hid (FB_4.out.below hbn FB_4.out.lt)
      have AW_5 : Hid (Below w.heap.size w w_5) := AW_4.out.trans (hbn.mono AW_4.out.size)
      clear hbn AW_4 FL_4 FM_4 FA_4 FB_4
      clear hb
      obtain ⟨b0, b1, b2⟩ := Box.c FB_5.out
      obtain ⟨a0, a1, a2⟩ := Box.c FA_5.out
      go_wp2_with fail
      clear  b0 b1 b2 a0 a1 a2
      refine (known (cWins_any m t q _ lb n s r _ la T _ (OwnI.reads FM_5.out) (OwnI.reads FL_5.out) (by omega) (by omega) (by omega) (by omega) (by omega) (by omega)) true (yes HP.out.symm)).mono ?_
      rintro e w_6 ⟨rfl, hb⟩
      have hbn := hb
      have FL_6 := Lib.hid (FL_5.out.below hbn (Nat.le_refl _))
      have FM_6 := Lib.hid (FM_5.out.below hbn (Nat.le_refl _))
      have FA_6 := Lib.hid (FA_5.out.below hbn FA_5.out.lt)
      have FB_6 := Lib.hid (FB_5.out.below hbn FB_5.out.lt)
      have AW_6 : Hid (Below w.heap.size w w_6) := AW_5.out.trans (hbn.mono AW_5.out.size)
      clear hbn AW_5 FL_5 FM_5 FA_5 FB_5
      clear hb
      obtain ⟨a0, a1, a2⟩ := Box.c FA_6.out
      go_wp2_with fail
      clear  a0 a1 a2
      refine (known (cWins_any n s r _ la n s r _ la T _ (OwnI.reads FL_6.out) (OwnI.reads FL_6.out) (by omega) (by omega) (by omega) (by omega) (by omega) (by omega)) true (yes HP.out.self)).mono ?_
      rintro e w_7 ⟨rfl, hb⟩
      have hbn := hb
      have FL_7 := Lib.hid (FL_6.out.below hbn (Nat.le_refl _))
      have FM_7 := Lib.hid (FM_6.out.below hbn (Nat.le_refl _))
      have FA_7 := Lib.hid (FA_6.out.below hbn FA_6.out.lt)
      have FB_7 := Lib.hid (FB_6.out.below hbn FB_6.out.lt)
      have AW_7 : Hid (Below w.heap.size w w_7) := AW_6.out.trans (hbn.mono AW_6.out.size)
      clear hbn AW_6 FL_6 FM_6 FA_6 FB_6
      clear hb
      obtain ⟨a0, a1, a2⟩ := Box.c FA_7.out
      obtain ⟨b0, b1, b2⟩ := Box.c FB_7.out
      have tX : (T == 0 || n == m) = true := by simp [HP.out.size hT0]
      go_wp2
      go_ret
      exact ⟨rfl, AW_7.out⟩
end Go.Proofs.YtpcnoiigbmiejaaDoor.fnCountingWinsW
